/- The first token of a text: a contract of lex.first, and that it is the reference's. Condition: the table of classes lies in memory. The tokens that the program's iterator hands out are the reference's: plain law, and the iterator's contract. Condition: the text lies in a box; a loop's body leaves tables and texts alone. The iterator over a text's tokens: its contract, whatever a loop's body does that leaves tables and texts alone. lex.Lex: the tokens of a source, or where none begins: a contract. No condition. -/
import Derived.Test.YtmmnhbhnjiajhaaGreatDoorSRlex
import Derived.Test.YtmmnhbhnjiajhaaGreatDoorSNum
import Derived.Deep.CutRange
import Derived.BigQuiet
import Derived.RangeFuncNested
import Derived.RangeFuncBound
import Derived.RangeFuncCalls
import Derived.RangeFuncLeaves
import Derived.Shelf.Abstract
import Derived.Shelf.RegionOpen
import Derived.OwnWalkIn
import Derived.TacticsInMore
import Derived.LoopNIn
import Derived.LoopIn
import Derived.RangeFuncBox
import Derived.Deep.MidRow
namespace Go.Proofs.YtmmnhbhnjiajhaaGreatDoor.c
open Go.RowKit
set_option linter.unusedVariables false
set_option maxRecDepth 100000
set_option maxHeartbeats 3200000
set_option linter.unusedSimpArgs false
def sgB:List (List UInt8):=[[40],[41],[123],[125],[44],[59],[58],[61],[61,61],[33,61],[33],[60],[60,61],[62],[62,61],[43],[43,37],[43,124],[45],[45,37],[45,124],[42],[42,37],[47],[37],[38],[124],[94],[63],[46],[46,46],[46,63],[61,62]]
def sgnB (l:List UInt8):Bool:=sgB.any fun k=>l == k
theorem isSign_any (s:ByteArray) (w:World):Calls Tryz.prog 130 #[.string s] w fun e w'=>e=.returned (.bool (sgnB s.data.toList))∧w=w':=by
 have HE:Hid (sgnB s.data.toList=sgB.any fun k=>s.toList == k):=by unfold Hid sgnB; rw [Lib.toList_data]
 go_enter Tryz.func130,Tryz.ntmps130
 go_wp2_with fail
 all_goals first
  | (exfalso; rename_i q1 q2; rw [q1] at q2; cases q2; done)
  | (go_ret; exact ⟨ret_bool (by rw [HE.out]; simp [sgB, *]),rfl⟩)
def sgL (l:List UInt8):Nat → Int × Nat
 | 0=>(0,0)
 | k + 1=>if sgnB (l.take (k + 1))=true then (2,k + 1) else sgL l k
def fs2 (l:List UInt8):Int × Nat:=match l with
 | []=>(0,0)
 | c :: r=>if isLet c.toNat then (0,((c :: r).takeWhile okB).length)
  else if isDig c.toNat then (1,((c :: r).takeWhile okB).length)
  else if c.toNat=64∧(match r with | []=>false | d :: _=>isLet d.toNat)=true then (3,1 + (r.takeWhile okB).length)
  else sgL (c :: r) (min 2 (r.length + 1))
theorem fs2_let {c:UInt8} {r:List UInt8} (h:isLet c.toNat=true):fs2 (c :: r)=(0,((c :: r).takeWhile okB).length):=by simp only [fs2]; rw [if_pos h]
theorem fs2_dig {c:UInt8} {r:List UInt8} (h:¬ isLet c.toNat=true) (h2:isDig c.toNat=true):fs2 (c :: r)=(1,((c :: r).takeWhile okB).length):=by simp only [fs2]; rw [if_neg h,if_pos h2]
theorem fs2_at {c d:UInt8} {r:List UInt8} (h:¬ isLet c.toNat=true) (h2:¬ isDig c.toNat=true) (h3:c.toNat=64) (h4:isLet d.toNat=true):fs2 (c :: d :: r)=(3,1 + ((d :: r).takeWhile okB).length):=by simp only [fs2]; rw [if_neg h,if_neg h2,if_pos ⟨h3,h4⟩]
theorem fs2_sg {c:UInt8} {r:List UInt8} (h:¬ isLet c.toNat=true) (h2:¬ isDig c.toNat=true) (h3:¬ (c.toNat=64∧(match r with | []=>false | d :: _=>isLet d.toNat)=true)):fs2 (c :: r)=sgL (c :: r) (min 2 (r.length + 1)):=by simp only [fs2]; rw [if_neg h,if_neg h2,if_neg h3]
theorem cls_three (c:Nat):(cls c == 3)=(!isLet c && isDig c):=by
 unfold cls
 cases isLet c <;> cases isDig c <;> simp <;> split <;> simp
theorem lfirst_any (g:Nat) (s:ByteArray) (w:World) (hs:s.size ≤ 4611686018427387904) (h0:0 < s.size) (hg:g < w.heap.size) (hc:∀ j,j < 256 → w.cell? ⟨g,j,none⟩=some (.int .u8 (cls j))) :
  Calls Tryz.prog 78 #[.pointer (some ⟨g,0,none⟩),.string s] w fun e w'=>e=.returned (.tuple #[.int .i64 (fs2 s.data.toList).1,.int .i64 (fs2 s.data.toList).2])∧Ext w w':=by
 have HT:=Lib.hid hc
 obtain ⟨c,r,hl⟩:∃ c r,s.data.toList=c :: r:=by
  cases hl:s.data.toList with
  | nil=>rw [Lib.size_eq,hl] at h0; simp at h0
  | cons c r=>exact ⟨c,r,rfl⟩
 have hc0:s[0]'h0=c:=by
  have:s.data.toList[0]?=some (s[0]'h0):=by rw [List.getElem?_eq_getElem (by rw [← Lib.size_eq]; exact h0)]; rfl
  rw [hl] at this
  simpa using this.symm
 have HR:=Lib.hid fun w1 (x:Ext w w1)=>run_any g 0 s w1 hs (Nat.lt_of_lt_of_le hg x.size) (fun j hj=>by rw [Nat.zero_add]; exact (x.cell (p:=⟨g,j,none⟩) hg).trans (hc j hj))
 have hb256:((s[0]'h0).toNat:Int) < 256:=by have:=UInt8.toNat_lt (s[0]'h0); omega
 have d0:w.cell? ⟨g,(s[0]'h0).toNat,none⟩=some (.int .u8 (cls (s[0]'h0).toNat)):=hc _ (UInt8.toNat_lt _)
 have HL:=Lib.hid hl
 have HC0:=Lib.hid hc0
 have HSZ:=Lib.hid hs
 clear hc hs hc0
 by_cases k2:cls (s[0]'h0).toNat=2
 ·have HF:Hid (fs2 s.data.toList=(0,(s.data.toList.takeWhile okB).length)):=by
   unfold Hid
   rw [HL.out]
   refine fs2_let ?_
   rw [← HC0.out,← cls_two,k2]; rfl
  rw [HF.out]
  rw [k2] at d0
  clear hl k2 HC0 HL HF
  go_enter Tryz.func78,Tryz.ntmps78
  go_wp2_with (first
   | go_quiet (fail)
   | (go_at_call 129; refine (HR.out _ exA).mono ?_; rintro e w3 ⟨rfl,x3⟩))
  go_ret2
  exact ⟨rfl,exA⟩
 have n2:¬ isLet c.toNat=true:=fun h=>k2 (by have:=cls_two c.toNat; rw [h] at this; rw [HC0.out]; simpa using this)
 by_cases k3:cls (s[0]'h0).toNat=3
 ·have HF:Hid (fs2 s.data.toList=(1,(s.data.toList.takeWhile okB).length)):=by
   unfold Hid
   rw [HL.out]
   refine fs2_dig n2 ?_
   have:=cls_three c.toNat
   rw [← HC0.out,k3] at this
   rw [← HC0.out]
   cases hd:isDig (s[0]'h0).toNat
   ·rw [hd] at this; simp at this
   ·rfl
  rw [HF.out]
  rw [k3] at d0
  clear hl k2 k3 HC0 HL HF n2
  go_enter Tryz.func78,Tryz.ntmps78
  go_wp2_with (first
   | go_quiet (fail)
   | (go_at_call 129; refine (HR.out _ exA).mono ?_; rintro e w3 ⟨rfl,x3⟩))
  go_ret2
  exact ⟨rfl,exA⟩
 have n3:¬ isDig c.toNat=true:=fun h=>k3 (by have:=cls_three c.toNat; rw [h,eq_false_of_ne_true n2] at this; rw [HC0.out]; simpa using this)
 obtain ⟨P1,P2,hP⟩:∃ a b,fs2 s.data.toList=(a,b):=⟨_,_,rfl⟩
 rw [hP]
 have HP:=Lib.hid hP
 clear hP
 obtain ⟨cl,hcl⟩:∃ cl,cls (s[0]'h0).toNat=cl:=⟨_,rfl⟩
 rw [hcl] at d0 k2 k3
 clear hcl
 go_enter Tryz.func78,Tryz.ntmps78
 have q2:(cl == 2)=false:=beq_eq_false_iff_ne.2 k2
 have q3:(cl == 3)=false:=beq_eq_false_iff_ne.2 k3
 go_upto_region 6 with (first | go_quiet (fail))
 try rw [q2]
 try rw [q3]
 clear q2 q3 k2 k3
 obtain ⟨w0,hw0⟩:∃ w0,w.drewN nq=w0:=⟨_,rfl⟩
 have X0:Ext w w0:=by rw [← hw0]; exact (Ext.refl w).drewN nq
 rw [hw0]
 clear hw0 d0
 clear hl
 have hsz1:s.size=r.length + 1:=by have:=congrArg List.length HL.out; rw [← Lib.size_eq] at this; simpa using this
 have HSR:=Lib.hid hsz1
 have hr:Hid ((s.extract 1 s.size).data.toList=r):=by have h1:=data_cons s h0; rw [HL.out] at h1; exact (List.cons.inj h1).2.symm
 obtain ⟨at2,hat⟩:∃ b,decide (c.toNat=64∧(match r with | []=>false | d :: _=>isLet d.toNat)=true)=b:=⟨_,rfl⟩
 have HAT:=Lib.hid hat
 clear hat
 clear hsz1
 go_cut [39] from 23 to 39 (fun v wx=>v=.bool at2∧Ext w wx)
 case first =>
  by_cases k64:(s[0]'h0).toNat=64
  ·have hb64:((s[0]'h0).toNat:Int)=64:=by omega
   have hbt:(((s[0]'h0).toNat:Int) == 64)=true:=beq_iff_eq.2 hb64
   by_cases h1:1 < s.size
   ·have h1i:(1:Int) < (s.size:Int):=by omega
    have h1d:decide ((1:Int) < (s.size:Int))=true:=decide_eq_true h1i
    obtain ⟨d,r',hrr⟩:∃ d r',r=d :: r':=by
     cases r with
     | nil=>have hsz1:=HSR.out; simp at hsz1; omega
     | cons d r'=>exact ⟨d,r',rfl⟩
    have hd1:s[1]'h1=d:=by
     have:s.data.toList[1]?=some (s[1]'h1):=by rw [List.getElem?_eq_getElem (by rw [← Lib.size_eq]; exact h1)]; rfl
     rw [HL.out,hrr] at this
     simpa using this.symm
    have hb1:((s[1]'h1).toNat:Int) < 256:=by have:=UInt8.toNat_lt (s[1]'h1); omega
    have e1:w0.cell? ⟨g,(s[1]'h1).toNat,none⟩=some (.int .u8 (cls (s[1]'h1).toNat)):=(X0.cell (p:=⟨g,_,none⟩) hg).trans (HT.out _ (UInt8.toNat_lt _))
    have hA:Hid (at2=isLet d.toNat):=by
     rw [← HAT.out,hrr,← HC0.out,k64]
     unfold Hid
     cases hq:isLet d.toNat <;> simp [hq]
    have HC1:=Lib.hid ((cls_two (s[1]'h1).toNat).trans (by rw [hd1]))
    obtain ⟨c1,hc1⟩:∃ c1,cls (s[1]'h1).toNat=c1:=⟨_,rfl⟩
    rw [hc1] at e1 HC1
    have hX:=Lib.hid X0
    clear hc1 hd1 hrr HC0 HL HAT HR HT hr X0 k64 hb64 HSR
    go_quiet (fail)
    go_wp2_with fail
    go_meet
    exact ⟨by rw [hA.out,← HC1.out],by have:=hX.out; (repeat (first | (with_reducible exact Ext.refl _) | (with_reducible assumption) | (with_reducible refine Ext.alloc ?_ _) | (with_reducible refine Ext.drewN ?_ _) | (with_reducible refine Ext.drew ?_) | (with_reducible refine Ext.setCell ?_ ?_ _; rotate_left; first | assumption | (simp; done) | (simp; omega)) | (with_reducible refine Ext.trans ?_ (by with_reducible assumption))))⟩
   ·have hd:decide ((1:Int) < (s.size:Int))=false:=by simp; omega
    have hA:Hid (at2=false):=by
     have:r=[]:=by cases r with
      | nil=>rfl
      | cons d r'=>have hsz1:=HSR.out; simp at hsz1; omega
     rw [← HAT.out,this]
     unfold Hid
     simp
    have hX:=Lib.hid X0
    clear HC0 HL HAT HR HT hr X0 k64 hb64 HSR
    go_quiet (fail)
    go_wp2_with fail
    go_meet
    exact ⟨by rw [hA.out],by have:=hX.out; (repeat (first | (with_reducible exact Ext.refl _) | (with_reducible assumption) | (with_reducible refine Ext.alloc ?_ _) | (with_reducible refine Ext.drewN ?_ _) | (with_reducible refine Ext.drew ?_) | (with_reducible refine Ext.setCell ?_ ?_ _; rotate_left; first | assumption | (simp; done) | (simp; omega)) | (with_reducible refine Ext.trans ?_ (by with_reducible assumption))))⟩
  ·have hd:(((s[0]'h0).toNat:Int) == 64)=false:=beq_eq_false_iff_ne.2 (by omega)
   have hA:Hid (at2=false):=by
    rw [← HAT.out,← HC0.out]
    unfold Hid
    simp [k64]
   have hX:=Lib.hid X0
   clear HC0 HL HAT HR HT hr X0
   go_quiet (fail)
   go_wp2_with fail
   go_meet
   exact ⟨by rw [hA.out],by have:=hX.out; (repeat (first | (with_reducible exact Ext.refl _) | (with_reducible assumption) | (with_reducible refine Ext.alloc ?_ _) | (with_reducible refine Ext.drewN ?_ _) | (with_reducible refine Ext.drew ?_) | (with_reducible refine Ext.setCell ?_ ?_ _; rotate_left; first | assumption | (simp; done) | (simp; omega)) | (with_reducible refine Ext.trans ?_ (by with_reducible assumption))))⟩
 case rest =>
  obtain ⟨rfl,XC⟩:=hcut
  have XCH:=Lib.hid XC
  clear X0 XC
  cases at2
  case true =>
   have HF:Hid (fs2 s.data.toList=(3,1 + (r.takeWhile okB).length)):=by
    have h1:=of_decide_eq_true HAT.out
    unfold Hid
    rw [HL.out]
    cases r with
    | nil=>exact absurd h1.2 (by simp)
    | cons d r'=>exact fs2_at n2 n3 h1.1 h1.2
   have h1:1 < s.size:=by
    have h1:=of_decide_eq_true HAT.out
    cases r with
    | nil=>exact absurd h1.2 (by simp)
    | cons d r'=>rw [HSR.out]; simp
   have HR1:=Lib.hid fun w1 (x:Ext w w1)=>run_any g 0 (s.extract 1 s.size) w1 (by have:=HSZ.out; simp; omega) (Nat.lt_of_lt_of_le hg x.size) (fun j hj=>by rw [Nat.zero_add]; exact (x.cell (p:=⟨g,j,none⟩) hg).trans (HT.out j hj))
   rw [hr.out] at HR1
   have hrl:(r.takeWhile okB).length ≤ r.length:=(List.takeWhile_sublist _).length_le
   have hw1:wrap64 (1 + ((r.takeWhile okB).length:Int))=1 + ((r.takeWhile okB).length:Int):=IntWalk.wrap64_in _ (by have:=HSZ.out; have:=HSR.out; omega)
   obtain ⟨e1,e2⟩:=Prod.mk.inj (HP.out.symm.trans HF.out)
   have E1:=Lib.hid e1
   have E2:=Lib.hid e2
   clear HF HP HAT HL HC0 HR HT e1 e2
   generalize (r.takeWhile okB).length=m at *
   have XX:Ext w wc:=XCH.out
   go_wp2_with (first
    | (go_at_call 129; refine (HR1.out _ exA).mono ?_; rintro e w3 ⟨rfl,x3⟩))
   go_ret2
   exact ⟨by rw [E1.out,E2.out]; simp [hw1],exA⟩
  case false =>
   have HF:Hid (fs2 s.data.toList=sgL s.data.toList (min 2 s.size)):=by
    unfold Hid
    rw [HSR.out,HL.out]
    exact fs2_sg n2 n3 (of_decide_eq_false HAT.out)
   have HP2:=Lib.hid (HF.out.symm.trans HP.out)
   clear HF HP HAT HL HC0 HR HT hr
   have XX:Ext w wc:=XCH.out
   go_wp2_with fail
   go_loopw [6] (fun u wr=>∃ k:Nat,u=.int .i64 k∧k ≤ 2∧k ≤ s.size∧Ext w wr∧Hid (sgL s.data.toList k=(P1,P2))) (fun u _=>(intOf u).toNat)
   case atStart=>exact ⟨min 2 s.size,congrArg (Value.int IntKind.i64) (by omega),Nat.min_le_left _ _,Nat.min_le_right _ _,XX,HP2⟩
   case round =>
    clear HP2
    obtain ⟨k,rfl,hk2,hks,hx,HG⟩:=hrel
    cases k with
    | zero =>
     have e:=HG.out
     obtain ⟨e1,e2⟩:=Prod.mk.inj e
     subst e1 e2
     go_wp2_with fail
     go_ret2
     exact ⟨rfl,exA⟩
    | succ k =>
     have hki:(0:Int) < ((k + 1:Nat):Int):=by omega
     have HS:Hid (∀ w1,Calls Tryz.prog 130 #[.string (s.extract 0 (k + 1))] w1 fun e w'=>e=.returned (.bool (sgnB (s.data.toList.take (k + 1))))∧w1=w'):=fun w1=>by
      have h9:=isSign_any (s.extract 0 (k + 1)) w1
      rwa [Lib.extract_data,List.drop_zero,Nat.sub_zero] at h9
     generalize hsg:sgnB (s.data.toList.take (k + 1))=b at HS
     have HB:=Lib.hid hsg
     clear hsg
     cases b
     ·have HG2:Hid (sgL s.data.toList k=(P1,P2)):=by
       have h9:=HG.out
       simp only [sgL,HB.out] at h9
       exact h9
      go_wp2_with (first
       | (go_at_call 130; refine (HS.out _).mono ?_; rintro e w3 ⟨rfl,rfl⟩))
      go_roundw
      case rel=>exact ⟨k,by first | rfl | (congr 1; omega),by omega,by omega,hx,HG2⟩
      case measure=>simp [intOf]
     ·have HG2:Hid ((2,k + 1)=(P1,P2)):=by
       have h9:=HG.out
       simp only [sgL,HB.out] at h9
       exact h9
      go_wp2_with (first
       | (go_at_call 130; refine (HS.out _).mono ?_; rintro e w3 ⟨rfl,rfl⟩))
      obtain ⟨e1,e2⟩:=Prod.mk.inj HG2.out
      subst e1 e2
      go_ret2
      exact ⟨by first | rfl | simp,exA⟩
attribute [local go_sem] Oper.semAt_some
set_option linter.unusedVariables false
theorem sgL_le (l:List UInt8):∀ k,(sgL l k).2 ≤ k
 | 0=>Nat.le_refl _
 | k + 1=>by
  unfold sgL
  split
  ·exact Nat.le_refl _
  ·exact Nat.le_succ_of_le (sgL_le l k)
theorem tw_le (l:List UInt8):(l.takeWhile okB).length ≤ l.length:=(List.takeWhile_sublist _).length_le
theorem fs2_len:∀ l:List UInt8,(fs2 l).2 ≤ l.length
 | []=>Nat.le_refl _
 | c :: r=>by
  by_cases k1:isLet c.toNat=true
  ·rw [fs2_let k1]; exact tw_le _
  by_cases k2:isDig c.toNat=true
  ·rw [fs2_dig k1 k2]; exact tw_le _
  by_cases k3:c.toNat=64∧(match r with | []=>false | d :: _=>isLet d.toNat)=true
  ·cases r with
   | nil=>exact absurd k3.2 (by simp)
   | cons d r =>
    rw [fs2_at k1 k2 k3.1 k3.2]
    have:=tw_le (d :: r)
    simp only [List.length_cons] at this ⊢
    omega
  ·rw [fs2_sg k1 k2 k3]
   have:=sgL_le (c :: r) (min 2 (r.length + 1))
   simp only [List.length_cons]
   omega
def yl (s:ByteArray) (a:Nat):List Tok :=
 if h:a < s.size then
  if blank (s[a]'h).toNat then yl s (a + 1)
  else
   if hn:(fs2 (s.data.toList.drop a)).2=0 then [⟨(fs2 (s.data.toList.drop a)).1,a,⟨#[]⟩⟩]
   else ⟨(fs2 (s.data.toList.drop a)).1,a,s.extract a (a + (fs2 (s.data.toList.drop a)).2)⟩ :: yl s (a + (fs2 (s.data.toList.drop a)).2)
 else []
termination_by s.size - a
theorem yl_end {s:ByteArray} {a:Nat} (h:¬ a < s.size):yl s a=[]:=by rw [yl,dif_neg h]
theorem yl_blank {s:ByteArray} {a:Nat} (h:a < s.size) (hb:blank (s[a]'h).toNat=true):yl s a=yl s (a + 1):=by rw [yl,dif_pos h,if_pos hb]
theorem yl_no {s:ByteArray} {a:Nat} (h:a < s.size) (hb:blank (s[a]'h).toNat=false) (hn:(fs2 (s.data.toList.drop a)).2=0):yl s a=[⟨(fs2 (s.data.toList.drop a)).1,a,⟨#[]⟩⟩]:=by
 rw [yl,dif_pos h,if_neg (by rw [hb]; decide),dif_pos hn]
theorem yl_yes {s:ByteArray} {a:Nat} (h:a < s.size) (hb:blank (s[a]'h).toNat=false) (hn:¬ (fs2 (s.data.toList.drop a)).2=0) :
  yl s a=⟨(fs2 (s.data.toList.drop a)).1,a,s.extract a (a + (fs2 (s.data.toList.drop a)).2)⟩ :: yl s (a + (fs2 (s.data.toList.drop a)).2):=by
 rw [yl,dif_pos h,if_neg (by rw [hb]; decide),dif_neg hn]
theorem sg_two:∀ l:List UInt8,l.length=2 → (sgnB l=true ↔ ∃ g ∈ signsB.take 12,g.data.toList=l):=by
 intro l hl
 have h2:(sgB.filter fun k=>k.length == 2)=[[61,61],[33,61],[60,61],[62,61],[43,37],[43,124],[45,37],[45,124],[42,37],[46,46],[46,63],[61,62]]:=by decide
 have h3:(signsB.take 12).map (fun g=>g.data.toList)=[[61,61],[33,61],[60,61],[62,61],[43,37],[43,124],[45,37],[45,124],[42,37],[46,46],[46,63],[61,62]]:=by decide
 unfold sgnB
 rw [List.any_eq_true]
 constructor
 ·rintro ⟨k,hk,e⟩
  obtain rfl:=beq_iff_eq.1 e
  have:l ∈ (signsB.take 12).map (fun g=>g.data.toList):=by rw [h3,← h2]; exact List.mem_filter.2 ⟨hk,by simp [hl]⟩
  obtain ⟨g,hg,e⟩:=List.mem_map.1 this
  exact ⟨g,hg,e⟩
 ·rintro ⟨g,hg,e⟩
  have:l ∈ (sgB.filter fun k=>k.length == 2):=by rw [h2,← h3]; exact List.mem_map.2 ⟨g,hg,e⟩
  exact ⟨l,(List.mem_filter.1 this).1,beq_self_eq_true l⟩
theorem sg_one:∀ l:List UInt8,l.length=1 → (sgnB l=true ↔ ∃ g ∈ signsB.drop 12,g.data.toList=l):=by
 intro l hl
 have h2:∀ k,k ∈ (sgB.filter fun k=>k.length == 1) ↔ k ∈ (signsB.drop 12).map (fun g=>g.data.toList):=by
  have:(sgB.filter fun k=>k.length == 1).all (fun k=>((signsB.drop 12).map (fun g=>g.data.toList)).contains k)=true∧((signsB.drop 12).map (fun g=>g.data.toList)).all (fun k=>(sgB.filter fun k=>k.length == 1).contains k)=true:=by decide
  intro k
  constructor
  ·intro h; simpa using List.all_eq_true.1 this.1 k h
  ·intro h; simpa using List.all_eq_true.1 this.2 k h
 unfold sgnB
 rw [List.any_eq_true]
 constructor
 ·rintro ⟨k,hk,e⟩
  obtain rfl:=beq_iff_eq.1 e
  obtain ⟨g,hg,e⟩:=List.mem_map.1 ((h2 l).1 (List.mem_filter.2 ⟨hk,by simp [hl]⟩))
  exact ⟨g,hg,e⟩
 ·rintro ⟨g,hg,e⟩
  exact ⟨l,(List.mem_filter.1 ((h2 l).2 (List.mem_map.2 ⟨g,hg,e⟩))).1,beq_self_eq_true l⟩
theorem mt_iff {L:List UInt8} {a:Nat} {g:List UInt8} (hg:0 < g.length):mt L a g=true ↔ (L.drop a).take g.length=g:=by
 unfold mt
 simp only [Bool.and_eq_true,decide_eq_true_eq,beq_iff_eq]
 constructor
 ·exact fun h=>h.2
 ·intro h
  refine ⟨?_,h⟩
  have:=congrArg List.length h
  rw [List.length_take,List.length_drop] at this
  omega
theorem sgB_parts:signsB=signsB.take 12 ++ signsB.drop 12∧(∀ g ∈ signsB.take 12,g.data.toList.length=2)∧(∀ g ∈ signsB.drop 12,g.data.toList.length=1):=⟨(List.take_append_drop _ _).symm,by decide,by decide⟩
theorem sgL_find {L:List UInt8} {a:Nat} (h:a < L.length):match signsB.find? (fun g=>mt L a g.data.toList) with
  | none=>sgL (L.drop a) (min 2 (L.drop a).length)=(0,0)
  | some g=>sgL (L.drop a) (min 2 (L.drop a).length)=(2,g.size)∧0 < g.size:=by
 obtain ⟨hp,h2,h1⟩:=sgB_parts
 have hl:(L.drop a).length=L.length - a:=List.length_drop
 have k1:∀ l:List UInt8,0 < l.length → sgL l 1=if sgnB (l.take 1)=true then (2,1) else (0,0):=fun l _=>rfl
 have one:match (signsB.drop 12).find? (fun g=>mt L a g.data.toList) with
   | none=>sgL (L.drop a) 1=(0,0)
   | some g=>sgL (L.drop a) 1=(2,g.size)∧0 < g.size:=by
  have hs1:=sg_one ((L.drop a).take 1) (by rw [List.length_take]; omega)
  cases hf:(signsB.drop 12).find? (fun g=>mt L a g.data.toList) with
  | none =>
   have hn:=List.find?_eq_none.1 hf
   show sgL (L.drop a) 1=(0,0)
   rw [k1 _ (by omega),if_neg]
   intro hq
   obtain ⟨g,hg,e⟩:=hs1.1 hq
   exact hn g hg ((mt_iff (by rw [h1 g hg]; decide)).2 (by rw [h1 g hg,e]))
  | some g =>
   have hg:=List.mem_of_find?_eq_some hf
   have hm:=List.find?_some hf
   have e:=(mt_iff (by rw [h1 g hg]; decide)).1 hm
   rw [h1 g hg] at e
   have hz:g.size=1:=by rw [Lib.size_eq,h1 g hg]
   refine ⟨?_,by omega⟩
   rw [k1 _ (by omega),if_pos (hs1.2 ⟨g,hg,e.symm⟩),hz]
 rcases Nat.lt_or_ge 1 (L.drop a).length with hlen | hlen
 ·rw [show min 2 (L.drop a).length=2 by omega]
  have hs2:=sg_two ((L.drop a).take 2) (by rw [List.length_take]; omega)
  have e2:sgL (L.drop a) 2=if sgnB ((L.drop a).take 2)=true then (2,2) else sgL (L.drop a) 1:=rfl
  rw [hp,List.find?_append]
  cases hf:(signsB.take 12).find? (fun g=>mt L a g.data.toList) with
  | none =>
   have hn:=List.find?_eq_none.1 hf
   rw [Option.none_or,e2,if_neg]
   ·exact one
   ·intro hq
    obtain ⟨g,hg,e⟩:=hs2.1 hq
    exact hn g hg ((mt_iff (by rw [h2 g hg]; decide)).2 (by rw [h2 g hg,e]))
  | some g =>
   have hg:=List.mem_of_find?_eq_some hf
   have hm:=List.find?_some hf
   have e:=(mt_iff (by rw [h2 g hg]; decide)).1 hm
   rw [h2 g hg] at e
   have hz:g.size=2:=by rw [Lib.size_eq,h2 g hg]
   rw [Option.some_or]
   refine ⟨?_,by omega⟩
   rw [e2,if_pos (hs2.2 ⟨g,hg,e.symm⟩),hz]
 ·rw [show min 2 (L.drop a).length=1 by omega,hp,List.find?_append]
  cases hf:(signsB.take 12).find? (fun g=>mt L a g.data.toList) with
  | none=>rw [Option.none_or]; exact one
  | some g =>
   have hg:=List.mem_of_find?_eq_some hf
   have hm:=List.find?_some hf
   have e:=congrArg List.length ((mt_iff (by rw [h2 g hg]; decide)).1 hm)
   rw [List.length_take,h2 g hg] at e
   omega
theorem fst_fs {L:List UInt8} {a:Nat} (h:a < L.length):(fst3 L a).2.2=decide ((fs2 (L.drop a)).2 ≠ 0)∧((fs2 (L.drop a)).2 ≠ 0 → (fst3 L a).1=(fs2 (L.drop a)).1∧(fst3 L a).2.1=a + (fs2 (L.drop a)).2):=by
 obtain ⟨c,hc⟩:∃ c,L[a]?=some c:=⟨_,List.getElem?_eq_getElem h⟩
 have hd:L.drop a=c :: L.drop (a + 1):=by rw [List.drop_eq_getElem_cons h]; congr 1; rw [List.getElem?_eq_getElem h] at hc; exact Option.some.inj hc
 have hsg:=sgL_find h
 unfold fst3
 rw [hc]
 simp only
 by_cases k1:isLet c.toNat=true
 ·have hp:0 < ((c :: L.drop (a + 1)).takeWhile okB).length:=by
   rw [List.takeWhile_cons,if_pos (by unfold okB; rw [k1]; rfl)]; simp
  rw [if_pos k1,hd,fs2_let k1]
  exact ⟨(decide_eq_true (by omega)).symm,fun _=>⟨rfl,rfl⟩⟩
 rw [if_neg k1]
 by_cases k2:isDig c.toNat=true
 ·have hp:0 < ((c :: L.drop (a + 1)).takeWhile okB).length:=by
   rw [List.takeWhile_cons,if_pos (by unfold okB; rw [k2,Bool.or_true])]; simp
  rw [if_pos k2,hd,fs2_dig k1 k2]
  exact ⟨(decide_eq_true (by omega)).symm,fun _=>⟨rfl,rfl⟩⟩
 rw [if_neg k2]
 have hl1:∀ r,min 2 (c :: r).length=min 2 (r.length + 1):=fun r=>rfl
 by_cases k3:c.toNat=64
 ·rw [if_pos k3]
  have hno:sgL (c :: L.drop (a + 1)) (min 2 ((L.drop (a + 1)).length + 1))=(0,0):=by
   have hc64:c=64:=UInt8.toNat_inj.1 (by rw [k3]; rfl)
   have hall:∀ k ∈ sgB,k.head? ≠ some 64:=by decide
   have hz:∀ k,sgnB ((c :: L.drop (a + 1)).take (k + 1))=false:=fun k=>by
    rw [hc64,List.take_succ_cons]
    unfold sgnB
    rw [List.any_eq_false]
    intro q hq e
    have:=hall q hq
    rw [← beq_iff_eq.1 e] at this
    exact this rfl
   have:∀ k,sgL (c :: L.drop (a + 1)) k=(0,0):=fun k=>by
    induction k with
    | zero=>rfl
    | succ k ih=>unfold sgL; rw [if_neg (by rw [hz k]; decide),ih]
   exact this _
  cases hn:L[a + 1]? with
  | none =>
   have hr:L.drop (a + 1)=[]:=List.drop_eq_nil_of_le (List.getElem?_eq_none_iff.1 hn)
   rw [hd,fs2_sg k1 k2 (by rw [hr]; simp),hno]
   exact ⟨rfl,fun h=>absurd rfl h⟩
  | some d =>
   have hlt:a + 1 < L.length:=(List.getElem?_eq_some_iff.1 hn).1
   have hr:L.drop (a + 1)=d :: L.drop (a + 2):=by rw [List.drop_eq_getElem_cons hlt]; congr 1; rw [List.getElem?_eq_getElem hlt] at hn; exact Option.some.inj hn
   simp only
   by_cases k4:isLet d.toNat=true
   ·rw [if_pos k4,hd,hr,fs2_at k1 k2 k3 k4]
    exact ⟨(decide_eq_true (by omega)).symm,fun _=>⟨rfl,Nat.add_assoc a 1 _⟩⟩
   ·rw [if_neg k4,hd,fs2_sg k1 k2 (by rw [hr]; exact fun h=>k4 h.2),hno]
    exact ⟨rfl,fun h=>absurd rfl h⟩
 ·rw [if_neg k3,hd,fs2_sg k1 k2 (fun h=>k3 h.1)]
  rw [hd,hl1] at hsg
  cases hf:signsB.find? (fun g=>mt L a g.data.toList) with
  | none =>
   rw [hf] at hsg
   have hsg:sgL (c :: L.drop (a + 1)) (min 2 ((L.drop (a + 1)).length + 1))=(0,0):=hsg
   rw [hsg]
   exact ⟨rfl,fun h=>absurd rfl h⟩
  | some g =>
   rw [hf] at hsg
   have hsg:sgL (c :: L.drop (a + 1)) (min 2 ((L.drop (a + 1)).length + 1))=(2,g.size)∧0 < g.size:=hsg
   rw [hsg.1]
   exact ⟨(decide_eq_true (by have:=hsg.2; show g.size ≠ 0; omega)).symm,fun _=>⟨rfl,rfl⟩⟩
def hasT (x:Tok):Bool:=decide (0 < x.text.size)
theorem toks_yl (s:ByteArray):∀ n a acc,s.size - a ≤ n → a ≤ s.size →
  ((∀ x ∈ yl s a,hasT x=true) → toks s a acc=(acc ++ yl s a,0,true))∧(∀ pre x,yl s a=pre ++ [x] → hasT x=false → toks s a acc=([],x.at_,false))∧(∀ x ∈ yl s a,hasT x=false → ∃ pre,yl s a=pre ++ [x])∧(yl s a).length ≤ s.size - a:=by
 intro n
 induction n with
 | zero =>
  intro a acc hn ha
  have:¬ a < s.size:=by omega
  rw [yl_end this,toks_end this]
  exact ⟨fun _=>by simp,fun pre x h=>absurd h (by simp),fun x h=>absurd h (by simp),by simp⟩
 | succ n ih =>
  intro a acc hn ha
  by_cases h:a < s.size
  ·cases hb:blank (s[a]'h).toNat
   case true =>
    rw [yl_blank h hb,toks_blank h hb]
    obtain ⟨i1,i2,i3,i4⟩:=ih (a + 1) acc (by omega) (by omega)
    exact ⟨i1,i2,i3,by omega⟩
   case false =>
    have hlt:a < s.data.toList.length:=by rw [← Lib.size_eq]; exact h
    obtain ⟨f1,f2⟩:=fst_fs hlt
    by_cases h0:(fs2 (s.data.toList.drop a)).2=0
    ·rw [h0] at f1
     rw [yl_no h hb h0,toks_no h hb (by rw [f1]; rfl)]
     refine ⟨fun hx=>absurd (hx _ (List.mem_singleton_self _)) (fun h=>Bool.noConfusion (show false=true from h)),fun pre x e _=>?_,fun x hx _=>⟨[],by rw [List.mem_singleton.1 hx]; rfl⟩,by simp; omega⟩
     have e1:=congrArg List.length e
     rw [List.length_append] at e1
     have:pre=[]:=List.eq_nil_of_length_eq_zero (by simpa using e1)
     rw [this] at e
     have e2:=(List.cons.inj e).1
     rw [← e2]
    ·have hle:=fs2_len (s.data.toList.drop a)
     rw [List.length_drop,← Lib.size_eq] at hle
     obtain ⟨g1,g2⟩:=f2 h0
     obtain ⟨i1,i2,i3,i4⟩:=ih (a + (fs2 (s.data.toList.drop a)).2) (acc ++ [⟨(fs2 (s.data.toList.drop a)).1,a,s.extract a (a + (fs2 (s.data.toList.drop a)).2)⟩]) (by omega) (by omega)
     have hsz:hasT ⟨(fs2 (s.data.toList.drop a)).1,a,s.extract a (a + (fs2 (s.data.toList.drop a)).2)⟩=true:=by
      unfold hasT
      simp only [ByteArray.size_extract,decide_eq_true_eq]
      omega
     rw [yl_yes h hb h0,toks_yes h hb (by rw [f1]; exact decide_eq_true h0),g1,g2]
     refine ⟨fun hx=>?_,fun pre x e hx=>?_,fun x hx hxt=>?_,by simp; omega⟩
     ·rw [i1 fun x hx'=>hx x (List.mem_cons_of_mem _ hx'),List.append_assoc]; rfl
     ·cases pre with
      | nil =>
       have e1:=List.cons.inj e
       rw [← e1.1] at hx
       rw [hsz] at hx
       cases hx
      | cons y pre=>exact i2 pre x (List.cons.inj e).2 hx
     ·rcases List.mem_cons.1 hx with rfl | hx
      ·rw [hsz] at hxt; cases hxt
      ·obtain ⟨pre,e⟩:=i3 x hx hxt
       exact ⟨_ :: pre,by rw [e]; rfl⟩
  ·rw [yl_end h,toks_end h]
   exact ⟨fun _=>by simp,fun pre x h=>absurd h (by simp),fun x h=>absurd h (by simp),by simp⟩
attribute [local go_sem] Oper.semAt_some
set_option linter.unusedVariables false
def KpT (W W':World):Prop:=W.heap.size ≤ W'.heap.size∧∀ (b:Nat) (cs:Array Value) (fr:Nat × Nat) (t:TypeId),(t = 129 ∨ t = 9) → W.heap[b]?=some (Obj.cells cs t fr) → W'.heap[b]?=some (Obj.cells cs t fr)
theorem KpT.trans {A B C:World} (h:KpT A B) (k:KpT B C):KpT A C:=⟨Nat.le_trans h.1 k.1,fun b cs fr t ht hb=>k.2 b cs fr t ht (h.2 b cs fr t ht hb)⟩
theorem KpT.putObj {W:World} {l:Nat} {o:Obj} (o':Obj) (hl:W.heap[l]?=some o) (ho:o.isCells=false):KpT W (W.putObj l o') :=
 ⟨by simp,fun b cs fr t ht hb=>(World.putObj_heap_other (fun e=>by subst e; rw [hl] at hb; cases hb; cases ho)).trans hb⟩
theorem KpT.ext {W W':World} (x:Ext W W'):KpT W W':=⟨x.size,fun b cs fr t ht hb=>(x.out.block b (Array.getElem?_eq_some_iff.1 hb).1).trans hb⟩
theorem Ext.grownBy {W W':World} (x:Ext W W'):W.grownBy W' none:=⟨x.out.os,x.out.tape,x.out.output,x.out.size,fun k hk _=>x.out.block k hk⟩
def encT (x:Tok):Array Value:=#[.agg #[.int .i64 x.kind,.int .i64 x.at_,.string x.text]]
theorem cls_blank {c:Nat} (h:blank c=true):cls c=1:=by
 have:c=32 ∨ c=10:=by simpa [blank] using h
 rcases this with rfl | rfl <;> decide
theorem cls_noblank {c:Nat} (h:blank c=false):¬ cls c=1:=by
 have hn:¬ (c=32 ∨ c=10):=by simpa [blank] using h
 unfold cls
 rw [if_neg hn]
 cases isLet c <;> cases isDig c <;> simp
theorem iof_nt (i:Nat):(intOf (Value.int IntKind.i64 (i:Int))).toNat=i:=Int.toNat_natCast i
theorem iof_plus (i j:Nat):(intOf (Value.int IntKind.i64 ((i:Int) + (j:Int)))).toNat=i + j:=Int.toNat_natCast (i + j)
theorem iof_suc (i:Nat):(intOf (Value.int IntKind.i64 ((i:Int) + 1))).toNat=i + 1:=Int.toNat_natCast (i + 1)
theorem tok_it (n:Nat) (hn:1 ≤ n) (bn:Nat) (s:ByteArray) (hs:s.size ≤ 4000) (w:World) (hbn:Blk w bn 9 #[.string s]) :
  SeqStopsK Fence.wide n Tryz.prog 76 #[.pointer (some ⟨bn,0,none⟩)] encT KpT (fun ys=>ys=yl s 0) (fun pre=>pre <+: yl s 0) s.size w:=by
 intro l J Jx W hW hJ hJx hY h0
 have hz0:Tryz.zeroCells129 = tab (fun _=>0):=by kernel_rfl
 have HZ0:=Lib.hid hz0
 have hsz:(Tryz.prog.info? 129).map (·.size)=some (tab cls).size:=by rw [tab_size]; kernel_rfl
 have HZ:=Lib.hid hsz
 clear hz0 hsz
 have hJ':=fun pre W1 W2 (x:Ext W1 W2) (h:J pre W1)=>hJ pre W1 W2 none h x.grownBy (fun r e=>by cases e)
 have HJ:=Lib.hid hJ'
 have HY:=Lib.hid hY
 have B0:Blk W bn 9 #[.string s]:=(hW.block bn hbn.lt).trans hbn
 have b0:W.cell? ⟨bn,0,none⟩=some (.string s):=B0.cell 0
 have hbl:=B0.lt
 clear hJ' hJ hJx hY hW hbn
 refine callsIn_of_wp Tryz.func76 rfl trivial ?_ rfl
 simp only [Tryz.ntmps76,List.size_toArray,List.length_cons,List.length_nil,Nat.reduceAdd,Nat.reduceSub,Array.replicate_succ,Array.replicate_zero,List.push_toArray,List.append_toArray,List.nil_append,List.cons_append]
 refine wpIn_wide.2 ?_
 go_wp2_with (first
  | (go_at_call 77; refine (classes_any _).mono ?_; rintro e w1 ⟨rfl,x1⟩)
  | ((with_reducible show wpList _ _ _ (Oper.mk none (.store 129 (.tmp 3) _) _ _ _ _ :: _) _ _); refine wpList_store_row rfl 129 _ _ rfl w1.heap.size rfl 129 (tab fun _=>0) (tab cls) (by rw [← HZ0.out]; exact Blk.new _ _ _) rfl (by rw [tab_size,tab_size]) (tab_one cls) HZ.out ?_
     obtain ⟨w2,hw2⟩:∃ w2,(w1.alloc (.cells Tryz.zeroCells129 129)).setRow w1.heap.size (tab cls)=w2:=⟨_,rfl⟩
     have X2:Hid (Ext W w2):=by rw [← hw2]; exact (x1.alloc _).setRow x1.size _
     have T2:Hid (Blk w2 w1.heap.size 129 (tab cls)):=by rw [← hw2]; exact Blk.row (Blk.new w1 _ _) _
     rw [hw2]
     clear hw2))
 generalize w1.heap.size=bo at T2 ⊢
 have J2:=HJ.out _ _ _ X2.out h0
 have B2:=B0.ext X2.out
 clear x1
 go_loopw [4] (fun u wr=>∃ (a:Nat) (pre:List Tok),u=.int .i64 a∧a ≤ s.size∧Hid (pre ++ yl s a=yl s 0)∧pre.length ≤ a∧Hid (J pre wr)∧Hid (Blk wr bn 9 #[.string s])∧Hid (Blk wr bo 129 (tab cls))) (fun u _=>s.size - (intOf u).toNat)
 case atStart=>exact ⟨0,[],rfl,Nat.zero_le _,rfl,Nat.zero_le _,J2,B2,T2⟩
 case round =>
  clear X2 J2 B2 T2 b0 B0 h0
  obtain ⟨a,pre,rfl,ha,hp,hpl,Jr,Br,Tr⟩:=hrel
  have d0:wr.cell? ⟨bn,0,none⟩=some (.string s):=Br.out.cell 0
  have hlb:=Br.out.lt
  have hlt:=Tr.out.lt
  by_cases hlta:a < s.size
  ·have hai:(a:Int) < (s.size:Int):=by omega
   have hb256:((s[a]'hlta).toNat:Int) < 256:=by have:=UInt8.toNat_lt (s[a]'hlta); omega
   have e0:wr.cell? ⟨bo,(s[a]'hlta).toNat,none⟩=some (.int .u8 (cls (s[a]'hlta).toNat)):=(Tr.out.cell _).trans (tab_get cls _ (UInt8.toNat_lt _))
   have hwa:wrap64 ((a:Int) + 1)=(a:Int) + 1:=IntWalk.wrap64_in _ (by omega)
   cases hbk:blank (s[a]'hlta).toNat
   case true =>
    have hcl:cls (s[a]'hlta).toNat=1:=cls_blank hbk
    rw [hcl] at e0
    have HP:Hid (pre ++ yl s (a + 1)=yl s 0):=by rw [← yl_blank hlta hbk]; exact hp.out
    clear hbk hcl hp
    go_wp2_with fail
    case roundEnd=>exact ⟨⟨a + 1,pre,rfl,hlta,HP,by omega,Jr,Br,Tr⟩,by rw [iof_suc,iof_nt]; exact Nat.sub_lt_sub_left hlta (Nat.lt_succ_self a)⟩
   case false =>
    have hcl:¬ cls (s[a]'hlta).toNat=1:=cls_noblank hbk
    clear hwa
    have HF:=lfirst_any bo (s.extract a s.size) wr (by simp; omega) (by simp; omega) hlt (fun j hj=>(Tr.out.cell j).trans (tab_get cls j hj))
    rw [show (s.extract a s.size).data.toList=s.data.toList.drop a by rw [Lib.extract_data,List.take_of_length_le (by rw [List.length_drop,← Lib.size_eq]; omega)]] at HF
    have hfl:=fs2_len (s.data.toList.drop a)
    rw [List.length_drop,← Lib.size_eq] at hfl
    have HYL:Hid (if (fs2 (s.data.toList.drop a)).2=0 then yl s a=[⟨(fs2 (s.data.toList.drop a)).1,a,⟨#[]⟩⟩] else yl s a=⟨(fs2 (s.data.toList.drop a)).1,a,s.extract a (a + (fs2 (s.data.toList.drop a)).2)⟩ :: yl s (a + (fs2 (s.data.toList.drop a)).2)):=by
     unfold Hid
     split
     ·exact yl_no hlta hbk ‹_›
     ·exact yl_yes hlta hbk ‹_›
    generalize fs2 (s.data.toList.drop a)=f at HF hfl HYL
    obtain ⟨k,m⟩:=f
    simp only at HF hfl HYL
    have HFH:=Lib.hid HF
    have hplt:pre.length < s.size:=by omega
    have ham0:a + m ≤ s.size:=by omega
    have ham:(a:Int) + (m:Int) ≤ (s.size:Int):=by omega
    have hwm:wrap64 ((a:Int) + (m:Int))=(a:Int) + (m:Int):=IntWalk.wrap64_in _ (by omega)
    obtain ⟨cl,hcl2⟩:∃ cl,cls (s[a]'hlta).toNat=cl:=⟨_,rfl⟩
    rw [hcl2] at hcl e0
    clear HF hcl2 hbk
    go_upto_region 6 with (first
     | (go_at_call 78; refine HFH.out.mono ?_; rintro e w3 ⟨rfl,x3⟩))
    have d3:w3.cell? ⟨bn,0,none⟩=some (.string s):=(Br.out.ext x3).cell 0
    have J3:=HJ.out _ _ _ x3 Jr.out
    have B3:=Lib.hid (Br.out.ext x3)
    have T3:=Lib.hid (Tr.out.ext x3)
    clear d0 e0 x3 HFH Jr Br Tr hlb hlt
    obtain ⟨fn,tmps,assign,body,hy,hR⟩:=HY.out pre ⟨k,a,s.extract a (a + m)⟩ w3 J3 hplt
    dsimp only [encT] at hy
    refine (wpIn_wide (n:=n)).1 ?_
    gi_wp2
    refine hR.mono ?_
    have HPX:=Lib.hid hp.out
    clear hp hR hy HY
    rintro e w4 (⟨rfl,hJ4,hk4⟩ | ⟨rfl,hJx4⟩)
    ·have J4:=Lib.hid hJ4
     have B4:Hid (w4.heap[bn]?=some (Obj.cells #[.string s] 9 (0,0))):=hk4.2 _ _ _ _ (.inr rfl) B3.out
     have T4:Hid (w4.heap[bo]?=some (Obj.cells (tab cls) 129 (0,0))):=hk4.2 _ _ _ _ (.inl rfl) T3.out
     clear hJ4 hk4 J3 B3 T3 d3
     by_cases hm:m=0
     ·have hmb:((m:Int) == 0)=true:=by rw [hm]; rfl
      have hmi:(m:Int)=0:=by rw [hm]; rfl
      have HE:Hid (pre ++ [⟨k,a,s.extract a (a + m)⟩]=yl s 0):=by
       have h9:=HYL.out
       rw [if_pos hm] at h9
       have h8:=HPX.out
       rw [h9] at h8
       unfold Hid
       rw [← h8,hm]
       simp
       rfl
      gi_wp2
      go_wp2_with fail
      refine bodyPost_ret (results_none rfl _ _ _) rfl ?_
      first
       | exact ⟨⟨_,rfl⟩,.inl ⟨_,HE.out,J4.out⟩⟩
       | exact ⟨⟨_,rfl⟩,.inl (HE.out ▸ J4.out)⟩
     ·have hmb:((m:Int) == 0)=false:=beq_eq_false_iff_ne.2 (by omega)
      have HE:Hid ((pre ++ [⟨k,a,s.extract a (a + m)⟩]) ++ yl s (a + m)=yl s 0):=by
       have h9:=HYL.out
       rw [if_neg hm] at h9
       have h8:=HPX.out
       rw [h9] at h8
       unfold Hid
       rw [← h8]
       simp
      have hlen:(pre ++ [(⟨k,a,s.extract a (a + m)⟩:Tok)]).length ≤ a + m:=by rw [List.length_append]; exact Nat.add_le_add hpl (Nat.pos_of_ne_zero hm)
      gi_wp2
      go_wp2_with fail
      case roundEnd=>exact ⟨⟨a + m,_,rfl,ham0,HE,hlen,J4,B4,T4⟩,by rw [iof_plus,iof_nt]; exact Nat.sub_lt_sub_left hlta (Nat.lt_add_of_pos_right (Nat.pos_of_ne_zero hm))⟩
    ·have HPF:Hid ((pre ++ [⟨k,a,s.extract a (a + m)⟩]) <+: yl s 0):=by
      have h9:=HYL.out
      have h8:=HPX.out
      by_cases hm:m=0
      ·rw [if_pos hm] at h9
       rw [h9] at h8
       refine ⟨[],?_⟩
       rw [← h8,hm]
       simp
       rfl
      ·rw [if_neg hm] at h9
       rw [h9] at h8
       exact ⟨_,by rw [← h8]; simp; rfl⟩
     gi_wp2
     go_wp2_with fail
     refine bodyPost_ret (results_none rfl _ _ _) rfl ?_
     exact ⟨⟨_,rfl⟩,.inr ⟨_,HPF.out,hJx4⟩⟩
  ·have hai:¬ (a:Int) < (s.size:Int):=by omega
   have hd:decide ((a:Int) < (s.size:Int))=false:=decide_eq_false hai
   go_wp2_with fail
   go_end0
   exact ⟨⟨_,rfl⟩,.inl (by have h9:=hp.out; rw [yl_end hlta,List.append_nil] at h9; rw [← h9]; exact Jr.out)⟩
attribute [local go_sem] Oper.semAt_some
set_option linter.unusedVariables false
theorem tokens_fn (s:ByteArray) (w:World):Calls Tryz.prog 40 #[.string s] w fun e w'=>e=.returned (.func (.func 76) #[] #[.pointer (some ⟨w.heap.size,0,none⟩)])∧w'=w.alloc (.cells #[.string s] 9):=by
 have hmf:∀ (fn:Fn) (first cap:Array Value) (w:World),(Instr.makeFunc fn first cap).run Tryz.prog w=.ok (.func fn first cap) w:=fun _ _ _ _=>rfl
 go_enter Tryz.func40,Tryz.ntmps40
 go_wp2_with fail
 go_ret
 exact ⟨rfl,rfl⟩
def lexS (s:ByteArray):List Tok × Nat × Int :=
 if 4000 < s.size then ([],0,3)
 else if (toks s 0 []).2.2=true then (if 1000 < (toks s 0 []).1.length then ([],0,3) else ((toks s 0 []).1,(toks s 0 []).1.length,0))
 else ([],(toks s 0 []).2.1,2)
theorem keepC {W W':World} {row:Option Nat} {B:Nat} (g:W.grownBy W' row) (hr:∀ r,row=some r → B ≤ r∧∃ o:Obj,W.heap[r]?=some o∧o.isCells=false) {k:Nat} {cs:Array Value} {t:TypeId} {fr:Nat × Nat} (h:W.heap[k]?=some (Obj.cells cs t fr)):W'.heap[k]?=some (Obj.cells cs t fr) :=
 (g.block k (Array.getElem?_eq_some_iff.1 h).1 (fun e=>by obtain ⟨_,o,ho,hc⟩:=hr k e.symm; rw [h] at ho; cases ho; cases hc)).trans h
theorem keepX {w W W':World} {row:Option Nat} {B:Nat} (x:Ext w W) (hB:w.heap.size ≤ B) (g:W.grownBy W' row) (hr:∀ r,row=some r → B ≤ r∧∃ o:Obj,W.heap[r]?=some o∧o.isCells=false):Ext w W' :=
 ⟨x.out.grown g x.size fun r e=>Nat.le_trans hB (hr r e).1⟩
theorem keepO {W W':World} {row:Option Nat} {B base sz n:Nat} {e:TypeId} {v:Value} {xs:List Value} (h:W.ownsRow base e sz v n xs) (g:W.grownBy W' row) (hr:∀ r,row=some r → B ≤ r∧∃ o:Obj,W.heap[r]?=some o∧o.isCells=false):W'.ownsRow base e sz v n xs:=by
 refine h.kept g ?_
 rcases h.2 with ⟨rfl,_⟩ | ⟨q,cap,cur,rfl,_,hgb,_⟩
 ·exact .inl rfl
 ·refine .inr fun e'=>?_
  obtain ⟨_,o,ho,hc⟩:=hr q (by simpa [Value.ownBlock] using e'.symm)
  rw [hgb] at ho; cases ho; cases hc
theorem bs_nl' {s:ByteArray} (h:¬ s.size=0):(s.toList == [])=false:=beq_eq_false_iff_ne.2 fun e=>h (by rw [Lib.size_eq,← Lib.toList_data,e]; rfl)
theorem app_keep {W w1:World} {base n:Nat} {v:Value} {xs:List Value} {o:Obj} (hr:W.ownsRow base 84 3 v n xs) (g:(W.alloc o).grownBy w1 v.ownBlock) {B b:Nat} (hb:b ≠ B) {t:TypeId} (ht:t ≠ 84) {cs:Array Value} {fr:Nat × Nat} (h:W.heap[b]?=some (Obj.cells cs t fr)) (v':Value):(w1.setCell ⟨B,0,none⟩ v').heap[b]?=some (Obj.cells cs t fr):=by
 have hl:=(Array.getElem?_eq_some_iff.1 h).1
 refine (Below.heap_setCell _ _ _ _ hb).trans ((g.block b (by simp; omega) fun e=>?_).trans ((Below.heap_alloc W o b hl).trans h))
 rcases hr.2 with ⟨rfl,_⟩ | ⟨q,cap,cur,rfl,_,hgb,_⟩
 ·simp [Value.ownBlock] at e
 ·obtain rfl:b=q:=by simpa [Value.ownBlock] using e
  have h9:=h.symm.trans hgb
  simp at h9
  exact ht h9.2.1
theorem lex_end {w W:World} {b2 b3 b4 D:Nat} {x2 x3 x4:Value} (u2 u3 u4:Value) (hx:Ext w W) (k2:Blk W b2 45 #[x2]) (k3:Blk W b3 3 #[x3]) (k4:Blk W b4 24 #[x4]) (h23:b2 ≠ b3) (h24:b2 ≠ b4) (h34:b3 ≠ b4) (l2:w.heap.size ≤ b2) (l3:w.heap.size ≤ b3) (l4:w.heap.size ≤ b4) (hD:W.heap[D]?=some (.deferred (some []))) (lD:w.heap.size ≤ D) (o':Obj) :
  (((W.setCell ⟨b2,0,none⟩ u2).setCell ⟨b3,0,none⟩ u3).setCell ⟨b4,0,none⟩ u4).heap[D]?=some (.deferred (some [])) ∧
  Boxed ((((W.setCell ⟨b2,0,none⟩ u2).setCell ⟨b3,0,none⟩ u3).setCell ⟨b4,0,none⟩ u4).putObj D o') b2 45 u2∧Boxed ((((W.setCell ⟨b2,0,none⟩ u2).setCell ⟨b3,0,none⟩ u3).setCell ⟨b4,0,none⟩ u4).putObj D o') b3 3 u3∧Boxed ((((W.setCell ⟨b2,0,none⟩ u2).setCell ⟨b3,0,none⟩ u3).setCell ⟨b4,0,none⟩ u4).putObj D o') b4 24 u4 ∧
  Ext w ((((W.setCell ⟨b2,0,none⟩ u2).setCell ⟨b3,0,none⟩ u3).setCell ⟨b4,0,none⟩ u4).putObj D o')∧∀ base n v xs,W.ownsRow base 84 3 v n xs → ((((W.setCell ⟨b2,0,none⟩ u2).setCell ⟨b3,0,none⟩ u3).setCell ⟨b4,0,none⟩ u4).putObj D o').ownsRow base 84 3 v n xs:=by
 have d2:D ≠ b2:=fun e=>by subst e; rw [show W.heap[D]?=_ from k2] at hD; cases hD
 have d3:D ≠ b3:=fun e=>by subst e; rw [show W.heap[D]?=_ from k3] at hD; cases hD
 have d4:D ≠ b4:=fun e=>by subst e; rw [show W.heap[D]?=_ from k4] at hD; cases hD
 have hD2:(((W.setCell ⟨b2,0,none⟩ u2).setCell ⟨b3,0,none⟩ u3).setCell ⟨b4,0,none⟩ u4).heap[D]?=some (.deferred (some [])):=(Below.heap_setCell _ _ _ _ d4).trans ((Below.heap_setCell _ _ _ _ d3).trans ((Below.heap_setCell _ _ _ _ d2).trans hD))
 have c2:Blk (((W.setCell ⟨b2,0,none⟩ u2).setCell ⟨b3,0,none⟩ u3).setCell ⟨b4,0,none⟩ u4) b2 45 #[u2]:=((k2.set_ 0 u2).far (p:=⟨b3,0,none⟩) h23 _).far (p:=⟨b4,0,none⟩) h24 _
 have c3:Blk (((W.setCell ⟨b2,0,none⟩ u2).setCell ⟨b3,0,none⟩ u3).setCell ⟨b4,0,none⟩ u4) b3 3 #[u3]:=((k3.far (p:=⟨b2,0,none⟩) h23.symm _).set_ 0 u3).far (p:=⟨b4,0,none⟩) h34 _
 have c4:Blk (((W.setCell ⟨b2,0,none⟩ u2).setCell ⟨b3,0,none⟩ u3).setCell ⟨b4,0,none⟩ u4) b4 24 #[u4]:=((k4.far (p:=⟨b2,0,none⟩) h24.symm _).far (p:=⟨b3,0,none⟩) h34.symm _).set_ 0 u4
 have x1:=((hx.setCell (p:=⟨b2,0,none⟩) l2 u2).setCell (p:=⟨b3,0,none⟩) l3 u3).setCell (p:=⟨b4,0,none⟩) l4 u4
 refine ⟨hD2,Boxed.kept c2 (grownBy_putObj' _ D o') (fun e=>d2 (Option.some.inj e).symm),Boxed.kept c3 (grownBy_putObj' _ D o') (fun e=>d3 (Option.some.inj e).symm),Boxed.kept c4 (grownBy_putObj' _ D o') (fun e=>d4 (Option.some.inj e).symm),⟨x1.out.grown (grownBy_putObj' _ D o') x1.size fun r e=>by cases e; exact lD⟩,fun base n v xs ho=>?_⟩
 have o2:=ho.kept (grownBy_setCell' W b2 u2) (.inr (Boxed.not_row k2 (by decide) ho).symm)
 have o3:=o2.kept (grownBy_setCell' _ b3 u3) (.inr (Boxed.not_row (k3.far (p:=⟨b2,0,none⟩) h23.symm _) (by decide) o2).symm)
 have o4:=o3.kept (grownBy_setCell' _ b4 u4) (.inr (Boxed.not_row ((k4.far (p:=⟨b2,0,none⟩) h24.symm _).far (p:=⟨b3,0,none⟩) h34.symm _) (by decide) o3).symm)
 exact ownsRow_putObj o4 _ hD2 rfl
structure LxI (w:World) (b2 b3 b4 b5 bn:Nat) (s:ByteArray) (pre:List Tok) (W:World):Prop where
 x:Ext w W
 b2:Blk W b2 45 #[.slice none 0 0]
 b3:Blk W b3 3 #[.int .i64 0]
 b4:Blk W b4 24 #[.int .i64 0]
 bn:Blk W bn 9 #[.string s]
 out:∃ v,Boxed W b5 45 v∧W.ownsRow w.heap.size 84 3 v pre.length (pre.flatMap Tok.cells)
 txt:∀ x ∈ pre,hasT x=true
structure LxX (w:World) (b2 b3 b4:Nat) (pre:List Tok) (W:World):Prop where
 x:Ext w W
 b2:Blk W b2 45 #[.slice none 0 0]
 b4:Blk W b4 24 #[.int .i64 2]
 las:∃ p y,pre=p ++ [y]∧hasT y=false∧Blk W b3 3 #[.int .i64 y.at_]
theorem LxI.own {w:World} {b2 b3 b4 b5 bn B:Nat} {s:ByteArray} (hB:w.heap.size ≤ B):OwnFrom B (LxI w b2 b3 b4 b5 bn s):=fun pre W W' row h g hr=>by
 obtain ⟨v,hv,ho⟩:=h.out
 exact ⟨keepX h.x hB g hr,keepC g hr h.b2,keepC g hr h.b3,keepC g hr h.b4,keepC g hr h.bn,⟨v,keepC g hr hv,keepO ho g hr⟩,h.txt⟩
theorem LxX.own {w:World} {b2 b3 b4 B:Nat} (hB:w.heap.size ≤ B):OwnFrom B (LxX w b2 b3 b4):=fun pre W W' row h g hr=>by
 obtain ⟨p,y,e,hy,hb⟩:=h.las
 exact ⟨keepX h.x hB g hr,keepC g hr h.b2,keepC g hr h.b4,⟨p,y,e,hy,keepC g hr hb⟩⟩
theorem lex_res {tmps:Array Value} {W:World} {b2 b3 b4:Nat} {v1 v2 v3:Value} (h2:tmps.getD 2 undef=.pointer (some ⟨b2,0,none⟩)) (h3:tmps.getD 3 undef=.pointer (some ⟨b3,0,none⟩)) (h4:tmps.getD 4 undef=.pointer (some ⟨b4,0,none⟩))
  (k2:Boxed W b2 45 v1) (k3:Boxed W b3 3 v2) (k4:Boxed W b4 24 v3):(results Tryz.f15 tmps).run Tryz.prog W=.ok (.tuple #[v1,v2,v3]) W:=by
 simp only [Array.getD_eq_getD_getElem?] at h2 h3 h4
 have c2:=k2.cell
 have c3:=k3.cell
 have c4:=k4.cell
 simp only [results,Tryz.results15]
 simp [go_sem,h2,h3,h4,c2,c3,c4]
def tokA (x:Tok):Array Value:=#[.int .i64 x.kind,.int .i64 x.at_,.string x.text]
theorem lex_any (s:ByteArray) (w:World):Calls Tryz.prog 15 #[.string s] w fun e w'=>∃ v,e=.returned (.tuple #[v,.int .i64 (lexS s).2.1,.int .i64 (lexS s).2.2])∧w'.ownsRow w.heap.size 84 3 v (lexS s).1.length ((lexS s).1.flatMap Tok.cells)∧Ext w w':=by
 refine (callsIn_wide (n:=10)).1 ?_
 refine callsIn_of_wp_marks Tryz.func15 rfl trivial ?_ rfl
 simp only [Tryz.ntmps15,List.size_toArray,List.length_cons,List.length_nil,Nat.reduceAdd,Nat.reduceSub,Array.replicate_succ,Array.replicate_zero,List.push_toArray,List.append_toArray,List.nil_append,List.cons_append]
 refine wpIn_wide.2 ?_
 by_cases hbig:4000 < s.size
 ·have hbi:(4000:Int) < (s.size:Int):=by omega
  have HL:Hid (lexS s=([],0,3)):=if_pos hbig
  rw [HL.out]
  go_wp2_with fail
  refine ⟨.tuple #[.slice none 0 0,.int .i64 0,.int .i64 3],lex_res rfl rfl rfl (((Boxed.new w _ _).alloc _).alloc _) ((by have q:=Boxed.new (w.alloc (.cells #[.slice none 0 0] 45)) 3 (.int .i64 0); rw [size_alloc] at q; exact q:Boxed _ _ _ _).alloc _) (by have q:=Boxed.new ((w.alloc (.cells #[.slice none 0 0] 45)).alloc (.cells #[.int .i64 0] 3)) 24 (.int .i64 3); rw [size_alloc,size_alloc] at q; exact q),?_⟩
  exact ⟨_,rfl,World.ownsRow_nil _ _ _ _,exA⟩
 ·have hbi:¬ (4000:Int) < (s.size:Int):=by omega
  go_wp2_with (first
   | (go_at_call 40; refine (tokens_fn _ _).mono ?_; rintro e w1 ⟨rfl,hw1⟩))
  generalize hb2:w.heap.size=b2
  have hW0:∃ W0,(((((w.alloc (.cells #[.slice none 0 0] 45)).alloc (.cells #[.int .i64 0] 3)).alloc (.cells #[.int .i64 0] 24)).alloc (.cells #[.slice none 0 0] 45)).alloc (.cells #[.string s] 9))=W0:=⟨_,rfl⟩
  obtain ⟨W0,hW0⟩:=hW0
  have hsz:W0.heap.size=b2 + 5:=by rw [← hW0,← hb2]; simp
  have hI:LxI w b2 (b2 + 1) (b2 + 1 + 1) (b2 + 1 + 1 + 1) (b2 + 1 + 1 + 1 + 1) s [] W0:=by
   have q1:=Boxed.new w 45 (.slice none 0 0)
   have q2:=Boxed.new (w.alloc (.cells #[.slice none 0 0] 45)) 3 (.int .i64 0)
   have q3:=Boxed.new ((w.alloc (.cells #[.slice none 0 0] 45)).alloc (.cells #[.int .i64 0] 3)) 24 (.int .i64 0)
   have q4:=Boxed.new (((w.alloc (.cells #[.slice none 0 0] 45)).alloc (.cells #[.int .i64 0] 3)).alloc (.cells #[.int .i64 0] 24)) 45 (.slice none 0 0)
   have q5:=Boxed.new ((((w.alloc (.cells #[.slice none 0 0] 45)).alloc (.cells #[.int .i64 0] 3)).alloc (.cells #[.int .i64 0] 24)).alloc (.cells #[.slice none 0 0] 45)) 9 (.string s)
   simp only [size_alloc,hb2] at q1 q2 q3 q4 q5
   rw [← hW0]
   exact ⟨exA,(((q1.alloc _).alloc _).alloc _).alloc _,((q2.alloc _).alloc _).alloc _,(q3.alloc _).alloc _,q5,⟨_,q4.alloc _,World.ownsRow_nil _ _ _ _⟩,fun x hx=>absurd hx (by simp)⟩
  have hbn:Blk W0 (b2 + 1 + 1 + 1 + 1) 9 #[.string s]:=hI.bn
  have hww:w.heap.size ≤ W0.heap.size:=by omega
  have hwb:w.heap.size ≤ b2:=Nat.le_of_eq hb2
  have hwz:b2 + 5 ≤ W0.heap.size:=Nat.le_of_eq hsz.symm
  rw [hW0]
  clear hb2 hsz hW0
  obtain ⟨i0,hi0,hz0,hz1,hz2⟩:=info_parts Tryz.infoTok
  have HTY:=toks_yl s s.size 0 [] (by omega) (by omega)
  refine (wpIn_wide (n:=10)).1 ?_
  refine wpIn_rangeFunc_ownH rfl (by decide) (gf := 76) (lb:=#[.pointer (some ⟨b2 + 1 + 1 + 1 + 1,0,none⟩)]) rfl trivial (enters_of Tryz.func76 (by kernel_rfl) rfl)
   (tok_it 9 (by decide) (b2 + 1 + 1 + 1 + 1) s (by omega) W0 hbn) (fun h k=>h.trans k) (fun W l o o' _ hl hc _=>KpT.putObj o' hl hc) (Below.refl _ _) (fun _=>rfl)
   (LxI w b2 (b2 + 1) (b2 + 1 + 1) (b2 + 1 + 1 + 1) (b2 + 1 + 1 + 1 + 1) s)
   (fun c pre W=>c=.ret∧LxX w b2 (b2 + 1) (b2 + 1 + 1) pre W)
   (LxI.own hww) (fun c pre W W' row h g hr=>⟨h.1,LxX.own hww pre W W' row h.2 g hr⟩) hI
   (fun x a' W=>∃ bx,w.heap.size ≤ bx∧Blk W bx 84 (tokA x)∧a'={ tmps:=#[.string s,undef,.pointer (some ⟨b2,0,none⟩),.pointer (some ⟨b2 + 1,0,none⟩),.pointer (some ⟨b2 + 1 + 1,0,none⟩),.pointer (some ⟨b2 + 1 + 1 + 1,0,none⟩),.pointer (some ⟨bx,0,none⟩),.string s,.int .i64 s.size,.bool false,.string s,.func (.func 76) #[] #[.pointer (some ⟨b2 + 1 + 1 + 1 + 1,0,none⟩)],.agg (tokA x),undef,undef,undef,undef,undef,undef,undef,undef,undef,undef,undef,undef,undef,undef,undef],defers:=[] })
   (fun x a' _ W W' row h g hr=>by obtain ⟨bx,hl,hb,ha⟩:=h; exact ⟨bx,hl,keepC g hr hb,ha⟩) ?assign ?body ?done ?stop
  case assign =>
   intro l pre x W K hi hK
   dsimp only [encT]
   gi_wp2
   have hx:Ext W (W.alloc (.cells (tokA x) 84)):=(Ext.refl W).alloc _
   obtain ⟨v,hv,ho⟩:=hi.out
   refine hK _ _ ((KeepsOthers.alloc _ _).from _) (KpT.ext hx) ⟨hi.x.alloc _,hi.b2.alloc _,hi.b3.alloc _,hi.b4.alloc _,hi.bn.alloc _,⟨v,hv.alloc _,ho.alloc _⟩,hi.txt⟩ ⟨W.heap.size,hi.x.size,Blk.new W _ _,rfl⟩
  case body =>
   rintro l pre x a' W hl ⟨rc,hrc⟩ hi ⟨bx,hbx,hB,rfl⟩ hlt
   have q2:W.cell? ⟨bx,2,none⟩=some (.string x.text):=hB.cell 2
   have q1:W.cell? ⟨bx,1,none⟩=some (.int .i64 x.at_):=hB.cell 1
   have q0:W.cell? ⟨bx,0,none⟩=some (.int .i64 x.kind):=hB.cell 0
   obtain ⟨v,hv,ho⟩:=hi.out
   by_cases hx:x.text.size=0
   ·have hxe:x.text=⟨#[]⟩:=by
     have:x.text.data.toList=[]:=List.eq_nil_of_length_eq_zero (by rw [← Lib.size_eq]; exact hx)
     exact ByteArray.ext (Array.toList_inj.1 this)
    have hxt:hasT x=false:=by unfold hasT; rw [hx]; rfl
    have HB:=Lib.hid hB
    have HI:=Lib.hid hi
    rw [hxe] at q2
    have c2:W.cell? ⟨b2,0,none⟩=some (.slice none 0 0):=hi.b2.cell 0
    have c3:W.cell? ⟨b2 + 1,0,none⟩=some (.int .i64 0):=hi.b3.cell 0
    have c4:W.cell? ⟨b2 + 1 + 1,0,none⟩=some (.int .i64 0):=hi.b4.cell 0
    have n2:bx ≠ b2:=fun e=>by subst e; have h9:=(show W.heap[bx]?=_ from hB).symm.trans hi.b2; simp at h9
    have n3:bx ≠ b2 + 1:=fun e=>by subst e; have h9:=(show W.heap[b2 + 1]?=_ from hB).symm.trans hi.b3; simp at h9
    have n4:bx ≠ b2 + 1 + 1:=fun e=>by subst e; have h9:=(show W.heap[b2 + 1 + 1]?=_ from hB).symm.trans hi.b4; simp at h9
    have z2:=hi.b2.frozen
    have z3:=hi.b3.frozen
    have z4:=hi.b4.frozen
    clear hB hi ho hv hxe
    have FIN:KeepsFrom W0.heap.size W (((W.setCell ⟨b2,0,none⟩ (.slice none 0 0)).setCell ⟨b2 + 1,0,none⟩ (.int .i64 x.at_)).setCell ⟨b2 + 1 + 1,0,none⟩ (.int .i64 2)).drew∧LxX w b2 (b2 + 1) (b2 + 1 + 1) (pre ++ [x]) (((W.setCell ⟨b2,0,none⟩ (.slice none 0 0)).setCell ⟨b2 + 1,0,none⟩ (.int .i64 x.at_)).setCell ⟨b2 + 1 + 1,0,none⟩ (.int .i64 2)).drew:=by
     refine ⟨((((KeepsOthers.setCell _ _ _).trans (KeepsOthers.setCell _ _ _)).trans (KeepsOthers.setCell _ _ _)).trans (KeepsOthers.drew _)).from _,?_⟩
     have i:=HI.out
     refine ⟨(((i.x.setCell (p:=⟨b2,0,none⟩) hwb _).setCell (p:=⟨b2 + 1,0,none⟩) (by show w.heap.size ≤ b2 + 1; omega) _).setCell (p:=⟨b2 + 1 + 1,0,none⟩) (by show w.heap.size ≤ b2 + 1 + 1; omega) _).drew,?_,?_,⟨pre,x,rfl,hxt,?_⟩⟩
     ·exact ((i.b2.set_ 0 (.slice none 0 0)).far (p:=⟨b2 + 1,0,none⟩) (by show b2 ≠ b2 + 1; omega) _).far (p:=⟨b2 + 1 + 1,0,none⟩) (by show b2 ≠ b2 + 1 + 1; omega) _
     ·exact ((i.b4.far (p:=⟨b2,0,none⟩) (by show b2 + 1 + 1 ≠ b2; omega) _).far (p:=⟨b2 + 1,0,none⟩) (by show b2 + 1 + 1 ≠ b2 + 1; omega) _).set_ 0 (.int .i64 2)
     ·exact ((i.b3.far (p:=⟨b2,0,none⟩) (by show b2 + 1 ≠ b2; omega) _).set_ 0 (.int .i64 x.at_)).far (p:=⟨b2 + 1 + 1,0,none⟩) (by show b2 + 1 ≠ b2 + 1 + 1; omega) _
    have FINH:=Lib.hid FIN
    clear FIN
    gi_wp2
    gi_region
    all_goals
     gi_wp2
     exact ⟨FINH.out.1,rfl,FINH.out.2⟩
   ·have hxt:hasT x=true:=decide_eq_true (Nat.pos_of_ne_zero hx)
    have hxe:(x.text.toList == [])=false:=bs_nl' hx
    have hpl:pre.length + 1 ≤ 4000:=by omega
    have HI:=Lib.hid hi
    have HB:=Lib.hid hB
    have HO:=Lib.hid ho
    have HV:=Lib.hid hv
    have cv:W.cell? ⟨b2 + 1 + 1 + 1,0,none⟩=some v:=hv.cell
    have zv:=hv.frozen
    clear hi hB ho hv hlt
    gi_wp2_with (gi_at_builtin; refine wpListIn_append_own _ rfl _ _ 45 rfl w.heap.size 84 i0 _ 3 32 Tryz.underlying45 hi0 hz0 hz1 hz2 rfl (by decide) _ _ _ rfl (HO.out.alloc _) ⟨W.heap.size,0,none⟩ 1 1 (tokA x).toList rfl rfl ?c1 ?c2 ?c3 ?c4 ?c5 ?_)
    case c1 =>
     intro j u hj
     rw [Addr.add_mid,Nat.zero_add,← hj]
     exact ((Blk.new W 84 (tokA x)).cell j).trans (by simp)
    case c2 =>
     intro u hu
     simp only [tokA,List.mem_cons,List.not_mem_nil,or_false] at hu
     rcases hu with rfl | rfl | rfl <;> rfl
    case c3=>unfold maxLen; omega
    case c4=>omega
    case c5=>have:=HI.out.x.size; simp; omega
    ·intro v' w1' hown' hgrow _
     obtain ⟨g',cap',rfl⟩:=ownsRow_succ hown'
     obtain ⟨hv1,hv2,hr2,hk2,hbw⟩:=HV.out.appended (by decide) HO.out HI.out.x.size (by omega) hown' hgrow
     have hc1:=hv1.cell
     have hf1:=hv1.frozen
     have APP:=Lib.hid fun b t cs fr (ht:t ≠ 84) (hb:b ≠ b2 + 1 + 1 + 1) (h:W.heap[b]?=some (Obj.cells cs t fr))=>app_keep HO.out hgrow hb ht h (.slice (some ⟨g',0,none⟩) (pre.length + 1) cap')
     have FIN:KeepsFrom W0.heap.size W (w1'.setCell ⟨b2 + 1 + 1 + 1,0,none⟩ (.slice (some ⟨g',0,none⟩) (pre.length + 1) cap'))∧KpT W (w1'.setCell ⟨b2 + 1 + 1 + 1,0,none⟩ (.slice (some ⟨g',0,none⟩) (pre.length + 1) cap'))∧LxI w b2 (b2 + 1) (b2 + 1 + 1) (b2 + 1 + 1 + 1) (b2 + 1 + 1 + 1 + 1) s (pre ++ [x]) (w1'.setCell ⟨b2 + 1 + 1 + 1,0,none⟩ (.slice (some ⟨g',0,none⟩) (pre.length + 1) cap')):=by
      have i:=HI.out
      refine ⟨hk2.from _,⟨hk2.size,fun b cs fr t ht h=>APP.out b t cs fr (by rcases ht with rfl | rfl <;> decide) (fun e=>?_) h⟩,⟨⟨i.x.out.trans hbw⟩,APP.out _ _ _ _ (by decide) (by omega) i.b2,APP.out _ _ _ _ (by decide) (by omega) i.b3,APP.out _ _ _ _ (by decide) (by omega) i.b4,APP.out _ _ _ _ (by decide) (by omega) i.bn,⟨_,hv2,?_⟩,fun y hy=>?_⟩⟩
      ·subst e
       have h9:=h.symm.trans HV.out
       rcases ht with rfl | rfl <;> simp at h9
      ·rw [List.length_append,List.flatMap_append]
       simpa [Tok.cells,tokA] using hr2
      ·rcases List.mem_append.1 hy with hy | hy
       ·exact i.txt y hy
       ·rw [List.mem_singleton.1 hy]; exact hxt
     have FINH:=Lib.hid FIN
     clear FIN APP hk2 hbw hr2 hv2 hown' hgrow
     gi_wp2
     exact FINH.out
  case done =>
   intro D xs W hD hS hi hK
   have HS:=Lib.hid hS
   clear hS
   obtain ⟨v,hv,ho⟩:=hi.out
   have cv:W.cell? ⟨b2 + 1 + 1 + 1,0,none⟩=some v:=hv.cell
   have HI:=Lib.hid hi
   have HO:=Lib.hid ho
   have HV:=Lib.hid hv
   have HK:=Lib.hid hK
   obtain ⟨A,k,hvs⟩:∃ A k,v=.slice A xs.length k:=by
    rcases ho.2 with ⟨rfl,e⟩ | ⟨q,cap,cur,rfl,_⟩
    ·exact ⟨none,0,by rw [e]⟩
    ·exact ⟨_,_,rfl⟩
   subst hvs
   have c2:W.cell? ⟨b2,0,none⟩=some (.slice none 0 0):=hi.b2.cell 0
   have c3:W.cell? ⟨b2 + 1,0,none⟩=some (.int .i64 0):=hi.b3.cell 0
   have c4:W.cell? ⟨b2 + 1 + 1,0,none⟩=some (.int .i64 0):=hi.b4.cell 0
   have z2:=hi.b2.frozen
   have z3:=hi.b3.frozen
   have z4:=hi.b4.frozen
   clear hi ho hv hK
   have HTK:Hid (toks s 0 []=(yl s 0,0,true)):=HTY.1 (by rw [← HS.out]; exact HI.out.txt)
   by_cases hbt:1000 < xs.length
   ·have hbti:(1000:Int) < (xs.length:Int):=by omega
    have HR:Hid (lexS s=([],0,3)):=by
     unfold Hid lexS
     rw [if_neg hbig,HTK.out]
     simp only [if_true]
     rw [if_pos (by rw [← HS.out]; exact hbt)]
    go_wp2_with fail
    obtain ⟨e1,e2,e3,e4,e5,e6⟩:=lex_end (.slice none 0 0) (.int .i64 0) (.int .i64 3) HI.out.x HI.out.b2 HI.out.b3 HI.out.b4 (by omega) (by omega) (by omega) hwb (by omega) (by omega) HK.out (by omega) (.deferred none)
    refine ⟨by simp,.inl ⟨_,_,rfl,run_takeDeferred e1,?_⟩⟩
    exact ⟨_,lex_res rfl rfl rfl e2 e3 e4,_,by rw [HR.out]; rfl,by rw [HR.out]; exact World.ownsRow_nil _ _ _ _,e5⟩
   ·have hbti:¬ (1000:Int) < (xs.length:Int):=by omega
    have HR:Hid (lexS s=(xs,xs.length,0)):=by
     unfold Hid lexS
     rw [if_neg hbig,HTK.out]
     simp only [if_true]
     rw [if_neg (by rw [← HS.out]; exact hbt),← HS.out]
    go_wp2_with fail
    obtain ⟨e1,e2,e3,e4,e5,e6⟩:=lex_end (.slice A xs.length k) (.int .i64 xs.length) (.int .i64 0) HI.out.x HI.out.b2 HI.out.b3 HI.out.b4 (by omega) (by omega) (by omega) hwb (by omega) (by omega) HK.out (by omega) (.deferred none)
    have E1:=Lib.hid e1
    have E2:=Lib.hid e2
    have E3:=Lib.hid e3
    have E4:=Lib.hid e4
    have E5:=Lib.hid e5
    have E6:=Lib.hid (e6 _ _ _ _ HO.out)
    clear e1 e2 e3 e4 e5 e6
    go_region
    all_goals
     go_wp2_with fail
     refine ⟨by simp,.inl ⟨_,_,rfl,run_takeDeferred (b:=D) (w:=World.drew _) E1.out,?_⟩⟩
     exact ⟨_,lex_res rfl rfl rfl E2.out E3.out E4.out,_,by rw [HR.out],by rw [HR.out]; exact E6.out,E5.out.drew⟩
  case stop =>
   rintro D c pre W hD hSp ⟨rfl,hx⟩ hK
   obtain ⟨p,y,rfl,hy,h3⟩:=hx.las
   have hmem:y ∈ yl s 0:=hSp.subset (List.mem_append_right _ (List.mem_singleton_self y))
   obtain ⟨pre',he⟩:=HTY.2.2.1 y hmem hy
   have ht:=HTY.2.1 pre' y he hy
   have HR:Hid (lexS s=([],y.at_,2)):=by
    unfold Hid lexS
    rw [if_neg hbig,ht]
    rfl
   have hr:∀ r,some D=some r → W0.heap.size ≤ r∧∃ o:Obj,W.heap[r]?=some o∧o.isCells=false:=fun r e=>by cases e; exact ⟨hD,_,hK,rfl⟩
   have g:=grownBy_putObj' W D (.deferred none)
   have e2:=keepC g hr hx.b2
   have e3:=keepC g hr h3
   have e4:=keepC g hr hx.b4
   have e5:=keepX hx.x hww g hr
   gi_wp2
   refine ⟨by simp,.inl ⟨_,_,rfl,run_takeDeferred hK,?_⟩⟩
   exact ⟨_,lex_res rfl rfl rfl e2 e3 e4,_,by rw [HR.out],by rw [HR.out]; exact World.ownsRow_nil _ _ _ _,e5⟩
end Go.Proofs.YtmmnhbhnjiajhaaGreatDoor.c
