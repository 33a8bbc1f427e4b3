/- The first token of a text: a contract of lex.first, and that it is the reference's. Condition: the table of classes lies in memory. -/
import Derived.Test.YtobfbfbjccmbiaaGreatDoorRlex
import Derived.Test.YtobfbfbjccmbiaaGreatDoorNum
import Derived.Deep.CutRange
import Derived.BigQuiet
namespace Go.Proofs.YtobfbfbjccmbiaaGreatDoor.c
open Go.RowKit
set_option linter.unusedVariables false
set_option maxRecDepth 100000
set_option maxHeartbeats 3200000
set_option linter.unusedSimpArgs false
def sgB:List (List UInt8):=[[40],[41],[123],[125],[44],[59],[58],[61],[61,61],[33,61],[33],[60],[60,61],[62],[62,61],[43],[43,37],[43,124],[45],[45,37],[45,124],[42],[42,37],[47],[37],[38],[124],[94],[63],[46],[46,46],[46,63],[61,62]]
def sgnB (l:List UInt8):Bool:=sgB.any fun k=>l == k
theorem isSign_any (s:ByteArray) (w:World):Calls Tryz.prog 118 #[.string s] w fun e w'=>e=.returned (.bool (sgnB s.data.toList))∧w=w':=by
 have HE:Hid (sgnB s.data.toList=sgB.any fun k=>s.toList == k):=by unfold Hid sgnB; rw [Lib.toList_data]
 go_enter Tryz.func118,Tryz.ntmps118
 go_wp2_with fail
 all_goals first
  | (exfalso; rename_i q1 q2; rw [q1] at q2; cases q2; done)
  | (go_ret; exact ⟨ret_bool (by rw [HE.out]; simp [sgB, *]),rfl⟩)
def sgL (l:List UInt8):Nat → Int × Nat
 | 0=>(0,0)
 | k + 1=>if sgnB (l.take (k + 1))=true then (2,k + 1) else sgL l k
def fs2 (l:List UInt8):Int × Nat:=match l with
 | []=>(0,0)
 | c :: r=>if isLet c.toNat then (0,((c :: r).takeWhile okB).length)
  else if isDig c.toNat then (1,((c :: r).takeWhile okB).length)
  else if c.toNat=64∧(match r with | []=>false | d :: _=>isLet d.toNat)=true then (3,1 + (r.takeWhile okB).length)
  else sgL (c :: r) (min 2 (r.length + 1))
theorem fs2_let {c:UInt8} {r:List UInt8} (h:isLet c.toNat=true):fs2 (c :: r)=(0,((c :: r).takeWhile okB).length):=by simp only [fs2]; rw [if_pos h]
theorem fs2_dig {c:UInt8} {r:List UInt8} (h:¬ isLet c.toNat=true) (h2:isDig c.toNat=true):fs2 (c :: r)=(1,((c :: r).takeWhile okB).length):=by simp only [fs2]; rw [if_neg h,if_pos h2]
theorem fs2_at {c d:UInt8} {r:List UInt8} (h:¬ isLet c.toNat=true) (h2:¬ isDig c.toNat=true) (h3:c.toNat=64) (h4:isLet d.toNat=true):fs2 (c :: d :: r)=(3,1 + ((d :: r).takeWhile okB).length):=by simp only [fs2]; rw [if_neg h,if_neg h2,if_pos ⟨h3,h4⟩]
theorem fs2_sg {c:UInt8} {r:List UInt8} (h:¬ isLet c.toNat=true) (h2:¬ isDig c.toNat=true) (h3:¬ (c.toNat=64∧(match r with | []=>false | d :: _=>isLet d.toNat)=true)):fs2 (c :: r)=sgL (c :: r) (min 2 (r.length + 1)):=by simp only [fs2]; rw [if_neg h,if_neg h2,if_neg h3]
theorem cls_three (c:Nat):(cls c == 3)=(!isLet c && isDig c):=by
 unfold cls
 cases isLet c <;> cases isDig c <;> simp <;> split <;> simp
theorem lfirst_any (g:Nat) (s:ByteArray) (w:World) (hs:s.size ≤ 4611686018427387904) (h0:0 < s.size) (hg:g < w.heap.size) (hc:∀ j,j < 256 → w.cell? ⟨g,j,none⟩=some (.int .u8 (cls j))) :
  Calls Tryz.prog 74 #[.pointer (some ⟨g,0,none⟩),.string s] w fun e w'=>e=.returned (.tuple #[.int .i64 (fs2 s.data.toList).1,.int .i64 (fs2 s.data.toList).2])∧Ext w w':=by
 have HT:=Lib.hid hc
 obtain ⟨c,r,hl⟩:∃ c r,s.data.toList=c :: r:=by
  cases hl:s.data.toList with
  | nil=>rw [Lib.size_eq,hl] at h0; simp at h0
  | cons c r=>exact ⟨c,r,rfl⟩
 have hc0:s[0]'h0=c:=by
  have:s.data.toList[0]?=some (s[0]'h0):=by rw [List.getElem?_eq_getElem (by rw [← Lib.size_eq]; exact h0)]; rfl
  rw [hl] at this
  simpa using this.symm
 have HR:=Lib.hid fun w1 (x:Ext w w1)=>run_any g 0 s w1 hs (Nat.lt_of_lt_of_le hg x.size) (fun j hj=>by rw [Nat.zero_add]; exact (x.cell (p:=⟨g,j,none⟩) hg).trans (hc j hj))
 have hb256:((s[0]'h0).toNat:Int) < 256:=by have:=UInt8.toNat_lt (s[0]'h0); omega
 have d0:w.cell? ⟨g,(s[0]'h0).toNat,none⟩=some (.int .u8 (cls (s[0]'h0).toNat)):=hc _ (UInt8.toNat_lt _)
 have HL:=Lib.hid hl
 have HC0:=Lib.hid hc0
 have HSZ:=Lib.hid hs
 clear hc hs hc0
 by_cases k2:cls (s[0]'h0).toNat=2
 ·have HF:Hid (fs2 s.data.toList=(0,(s.data.toList.takeWhile okB).length)):=by
   unfold Hid
   rw [HL.out]
   refine fs2_let ?_
   rw [← HC0.out,← cls_two,k2]; rfl
  rw [HF.out]
  rw [k2] at d0
  clear hl k2 HC0 HL HF
  go_enter Tryz.func74,Tryz.ntmps74
  go_wp2_with (first
   | go_quiet (fail)
   | (go_at_call 66; refine (HR.out _ exA).mono ?_; rintro e w3 ⟨rfl,x3⟩))
  go_ret2
  exact ⟨rfl,exA⟩
 have n2:¬ isLet c.toNat=true:=fun h=>k2 (by have:=cls_two c.toNat; rw [h] at this; rw [HC0.out]; simpa using this)
 by_cases k3:cls (s[0]'h0).toNat=3
 ·have HF:Hid (fs2 s.data.toList=(1,(s.data.toList.takeWhile okB).length)):=by
   unfold Hid
   rw [HL.out]
   refine fs2_dig n2 ?_
   have:=cls_three c.toNat
   rw [← HC0.out,k3] at this
   rw [← HC0.out]
   cases hd:isDig (s[0]'h0).toNat
   ·rw [hd] at this; simp at this
   ·rfl
  rw [HF.out]
  rw [k3] at d0
  clear hl k2 k3 HC0 HL HF n2
  go_enter Tryz.func74,Tryz.ntmps74
  go_wp2_with (first
   | go_quiet (fail)
   | (go_at_call 66; refine (HR.out _ exA).mono ?_; rintro e w3 ⟨rfl,x3⟩))
  go_ret2
  exact ⟨rfl,exA⟩
 have n3:¬ isDig c.toNat=true:=fun h=>k3 (by have:=cls_three c.toNat; rw [h,eq_false_of_ne_true n2] at this; rw [HC0.out]; simpa using this)
 obtain ⟨P1,P2,hP⟩:∃ a b,fs2 s.data.toList=(a,b):=⟨_,_,rfl⟩
 rw [hP]
 have HP:=Lib.hid hP
 clear hP
 obtain ⟨cl,hcl⟩:∃ cl,cls (s[0]'h0).toNat=cl:=⟨_,rfl⟩
 rw [hcl] at d0 k2 k3
 clear hcl
 go_enter Tryz.func74,Tryz.ntmps74
 have q2:(cl == 2)=false:=beq_eq_false_iff_ne.2 k2
 have q3:(cl == 3)=false:=beq_eq_false_iff_ne.2 k3
 go_upto_region 6 with (first | go_quiet (fail))
 try rw [q2]
 try rw [q3]
 clear q2 q3 k2 k3
 obtain ⟨w0,hw0⟩:∃ w0,w.drewN nq=w0:=⟨_,rfl⟩
 have X0:Ext w w0:=by rw [← hw0]; exact (Ext.refl w).drewN nq
 rw [hw0]
 clear hw0 d0
 clear hl
 have hsz1:s.size=r.length + 1:=by have:=congrArg List.length HL.out; rw [← Lib.size_eq] at this; simpa using this
 have HSR:=Lib.hid hsz1
 have hr:Hid ((s.extract 1 s.size).data.toList=r):=by have h1:=data_cons s h0; rw [HL.out] at h1; exact (List.cons.inj h1).2.symm
 obtain ⟨at2,hat⟩:∃ b,decide (c.toNat=64∧(match r with | []=>false | d :: _=>isLet d.toNat)=true)=b:=⟨_,rfl⟩
 have HAT:=Lib.hid hat
 clear hat
 clear hsz1
 go_cut [39] from 23 to 39 (fun v wx=>v=.bool at2∧Ext w wx)
 case first =>
  by_cases k64:(s[0]'h0).toNat=64
  ·have hb64:((s[0]'h0).toNat:Int)=64:=by omega
   have hbt:(((s[0]'h0).toNat:Int) == 64)=true:=beq_iff_eq.2 hb64
   by_cases h1:1 < s.size
   ·have h1i:(1:Int) < (s.size:Int):=by omega
    have h1d:decide ((1:Int) < (s.size:Int))=true:=decide_eq_true h1i
    obtain ⟨d,r',hrr⟩:∃ d r',r=d :: r':=by
     cases r with
     | nil=>have hsz1:=HSR.out; simp at hsz1; omega
     | cons d r'=>exact ⟨d,r',rfl⟩
    have hd1:s[1]'h1=d:=by
     have:s.data.toList[1]?=some (s[1]'h1):=by rw [List.getElem?_eq_getElem (by rw [← Lib.size_eq]; exact h1)]; rfl
     rw [HL.out,hrr] at this
     simpa using this.symm
    have hb1:((s[1]'h1).toNat:Int) < 256:=by have:=UInt8.toNat_lt (s[1]'h1); omega
    have e1:w0.cell? ⟨g,(s[1]'h1).toNat,none⟩=some (.int .u8 (cls (s[1]'h1).toNat)):=(X0.cell (p:=⟨g,_,none⟩) hg).trans (HT.out _ (UInt8.toNat_lt _))
    have hA:Hid (at2=isLet d.toNat):=by
     rw [← HAT.out,hrr,← HC0.out,k64]
     unfold Hid
     cases hq:isLet d.toNat <;> simp [hq]
    have HC1:=Lib.hid ((cls_two (s[1]'h1).toNat).trans (by rw [hd1]))
    obtain ⟨c1,hc1⟩:∃ c1,cls (s[1]'h1).toNat=c1:=⟨_,rfl⟩
    rw [hc1] at e1 HC1
    have hX:=Lib.hid X0
    clear hc1 hd1 hrr HC0 HL HAT HR HT hr X0 k64 hb64 HSR
    go_quiet (fail)
    go_wp2_with fail
    go_meet
    exact ⟨by rw [hA.out,← HC1.out],by have:=hX.out; (repeat (first | (with_reducible exact Ext.refl _) | (with_reducible assumption) | (with_reducible refine Ext.alloc ?_ _) | (with_reducible refine Ext.drewN ?_ _) | (with_reducible refine Ext.drew ?_) | (with_reducible refine Ext.setCell ?_ ?_ _; rotate_left; first | assumption | (simp; done) | (simp; omega)) | (with_reducible refine Ext.trans ?_ (by with_reducible assumption))))⟩
   ·have hd:decide ((1:Int) < (s.size:Int))=false:=by simp; omega
    have hA:Hid (at2=false):=by
     have:r=[]:=by cases r with
      | nil=>rfl
      | cons d r'=>have hsz1:=HSR.out; simp at hsz1; omega
     rw [← HAT.out,this]
     unfold Hid
     simp
    have hX:=Lib.hid X0
    clear HC0 HL HAT HR HT hr X0 k64 hb64 HSR
    go_quiet (fail)
    go_wp2_with fail
    go_meet
    exact ⟨by rw [hA.out],by have:=hX.out; (repeat (first | (with_reducible exact Ext.refl _) | (with_reducible assumption) | (with_reducible refine Ext.alloc ?_ _) | (with_reducible refine Ext.drewN ?_ _) | (with_reducible refine Ext.drew ?_) | (with_reducible refine Ext.setCell ?_ ?_ _; rotate_left; first | assumption | (simp; done) | (simp; omega)) | (with_reducible refine Ext.trans ?_ (by with_reducible assumption))))⟩
  ·have hd:(((s[0]'h0).toNat:Int) == 64)=false:=beq_eq_false_iff_ne.2 (by omega)
   have hA:Hid (at2=false):=by
    rw [← HAT.out,← HC0.out]
    unfold Hid
    simp [k64]
   have hX:=Lib.hid X0
   clear HC0 HL HAT HR HT hr X0
   go_quiet (fail)
   go_wp2_with fail
   go_meet
   exact ⟨by rw [hA.out],by have:=hX.out; (repeat (first | (with_reducible exact Ext.refl _) | (with_reducible assumption) | (with_reducible refine Ext.alloc ?_ _) | (with_reducible refine Ext.drewN ?_ _) | (with_reducible refine Ext.drew ?_) | (with_reducible refine Ext.setCell ?_ ?_ _; rotate_left; first | assumption | (simp; done) | (simp; omega)) | (with_reducible refine Ext.trans ?_ (by with_reducible assumption))))⟩
 case rest =>
  obtain ⟨rfl,XC⟩:=hcut
  have XCH:=Lib.hid XC
  clear X0 XC
  cases at2
  case true =>
   have HF:Hid (fs2 s.data.toList=(3,1 + (r.takeWhile okB).length)):=by
    have h1:=of_decide_eq_true HAT.out
    unfold Hid
    rw [HL.out]
    cases r with
    | nil=>exact absurd h1.2 (by simp)
    | cons d r'=>exact fs2_at n2 n3 h1.1 h1.2
   have h1:1 < s.size:=by
    have h1:=of_decide_eq_true HAT.out
    cases r with
    | nil=>exact absurd h1.2 (by simp)
    | cons d r'=>rw [HSR.out]; simp
   have HR1:=Lib.hid fun w1 (x:Ext w w1)=>run_any g 0 (s.extract 1 s.size) w1 (by have:=HSZ.out; simp; omega) (Nat.lt_of_lt_of_le hg x.size) (fun j hj=>by rw [Nat.zero_add]; exact (x.cell (p:=⟨g,j,none⟩) hg).trans (HT.out j hj))
   rw [hr.out] at HR1
   have hrl:(r.takeWhile okB).length ≤ r.length:=(List.takeWhile_sublist _).length_le
   have hw1:wrap64 (1 + ((r.takeWhile okB).length:Int))=1 + ((r.takeWhile okB).length:Int):=IntWalk.wrap64_in _ (by have:=HSZ.out; have:=HSR.out; omega)
   obtain ⟨e1,e2⟩:=Prod.mk.inj (HP.out.symm.trans HF.out)
   have E1:=Lib.hid e1
   have E2:=Lib.hid e2
   clear HF HP HAT HL HC0 HR HT e1 e2
   generalize (r.takeWhile okB).length=m at *
   have XX:Ext w wc:=XCH.out
   go_wp2_with (first
    | (go_at_call 66; refine (HR1.out _ exA).mono ?_; rintro e w3 ⟨rfl,x3⟩))
   go_ret2
   exact ⟨by rw [E1.out,E2.out]; simp [hw1],exA⟩
  case false =>
   have HF:Hid (fs2 s.data.toList=sgL s.data.toList (min 2 s.size)):=by
    unfold Hid
    rw [HSR.out,HL.out]
    exact fs2_sg n2 n3 (of_decide_eq_false HAT.out)
   have HP2:=Lib.hid (HF.out.symm.trans HP.out)
   clear HF HP HAT HL HC0 HR HT hr
   have XX:Ext w wc:=XCH.out
   go_wp2_with fail
   go_loopw [6] (fun u wr=>∃ k:Nat,u=.int .i64 k∧k ≤ 2∧k ≤ s.size∧Ext w wr∧Hid (sgL s.data.toList k=(P1,P2))) (fun u _=>(intOf u).toNat)
   case atStart=>exact ⟨min 2 s.size,congrArg (Value.int IntKind.i64) (by omega),Nat.min_le_left _ _,Nat.min_le_right _ _,XX,HP2⟩
   case round =>
    clear HP2
    obtain ⟨k,rfl,hk2,hks,hx,HG⟩:=hrel
    cases k with
    | zero =>
     have e:=HG.out
     obtain ⟨e1,e2⟩:=Prod.mk.inj e
     subst e1 e2
     go_wp2_with fail
     go_ret2
     exact ⟨rfl,exA⟩
    | succ k =>
     have hki:(0:Int) < ((k + 1:Nat):Int):=by omega
     have HS:Hid (∀ w1,Calls Tryz.prog 118 #[.string (s.extract 0 (k + 1))] w1 fun e w'=>e=.returned (.bool (sgnB (s.data.toList.take (k + 1))))∧w1=w'):=fun w1=>by
      have h9:=isSign_any (s.extract 0 (k + 1)) w1
      rwa [Lib.extract_data,List.drop_zero,Nat.sub_zero] at h9
     generalize hsg:sgnB (s.data.toList.take (k + 1))=b at HS
     have HB:=Lib.hid hsg
     clear hsg
     cases b
     ·have HG2:Hid (sgL s.data.toList k=(P1,P2)):=by
       have h9:=HG.out
       simp only [sgL,HB.out] at h9
       exact h9
      go_wp2_with (first
       | (go_at_call 118; refine (HS.out _).mono ?_; rintro e w3 ⟨rfl,rfl⟩))
      go_roundw
      case rel=>exact ⟨k,by first | rfl | (congr 1; omega),by omega,by omega,hx,HG2⟩
      case measure=>simp [intOf]
     ·have HG2:Hid ((2,k + 1)=(P1,P2)):=by
       have h9:=HG.out
       simp only [sgL,HB.out] at h9
       exact h9
      go_wp2_with (first
       | (go_at_call 118; refine (HS.out _).mono ?_; rintro e w3 ⟨rfl,rfl⟩))
      obtain ⟨e1,e2⟩:=Prod.mk.inj HG2.out
      subst e1 e2
      go_ret2
      exact ⟨by first | rfl | simp,exA⟩
end Go.Proofs.YtobfbfbjccmbiaaGreatDoor.c
