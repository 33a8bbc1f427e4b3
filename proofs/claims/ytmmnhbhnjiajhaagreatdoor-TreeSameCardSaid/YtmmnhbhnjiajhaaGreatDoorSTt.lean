/- Types of the language as words: the base of a type; digits. Conditions: tables hold what their text lays; texts are short. Digits and numbers. Conditions: texts are short. Which types and numbers are right; a number token with its type. Conditions: tables hold what their text lays. -/
import Derived.Test.YtmmnhbhnjiajhaaGreatDoorSTq
import Derived.Test.YtmmnhbhnjiajhaaGreatDoorShelfT
import Derived.Shelf.Strings.SlTrimAscii
import Derived.Deep.LoopGhost
import Derived.Laws.IdiomStrings
import Derived.Test.YtmmnhbhnjiajhaaGreatDoorSRlex
namespace Go.Proofs.YtmmnhbhnjiajhaaGreatDoor.c
open Go.RowKit
set_option linter.unusedVariables false
set_option maxRecDepth 100000
set_option maxHeartbeats 1600000
set_option linter.unusedSimpArgs false
def tyA (t:Ty):Array Value:=#[.int .i64 t.base,.int .i64 t.bits,.string t.name,.bool t.opt,.bool t.err]
def zTy:Array Value:=#[.int .i64 0,.int .i64 0,.string ⟨#[]⟩,.bool false,.bool false]
theorem tyA_one (t:Ty):∀ u ∈ (tyA t).toList,u.oneCell'=true:=by
 intro u hu
 simp only [tyA,List.mem_cons,List.not_mem_nil,or_false] at hu
 rcases hu with rfl | rfl | rfl | rfl | rfl <;> rfl
theorem results_row_tmp {P:Program} {fn:Func} {p u:Tmp} {ty:TypeId} (h:fn.results=#[.cell p ty,.tmp u]) (tmps:Array Value) (w:World) (g:Nat) (t:TypeId) (cs:Array Value) (fr:Nat × Nat) (d:TypeDesc)
  (hp:tmps.getD p undef=.pointer (some ⟨g,0,none⟩)) (hg:w.heap[g]?=some (.cells cs t fr))
  (hu:P.underlying ty=some d) (hd:(match d with | .struct _ | .array _ _=>true | _=>false)=true) (hi:(P.info? ty).map (·.size)=some cs.size) (v:Value) (hv:tmps.getD u undef=v) :
  (results fn tmps).run P w=.ok (.tuple #[.agg cs,v]) w:=by
 rw [results_cell_tmp h]
 have hl:=run_loadVar_row w g t ty cs fr d hg hu hd hi
 rw [hp,hv]
 simp [asAddr,hl,Result.andThen]
theorem trimLeft_any (s:ByteArray) (w:World):Calls Tryz.prog 257 #[.string s,.string ⟨#[48,49,50,51,52,53,54,55,56,57]⟩] w fun e w'=>e=.returned (.string ⟨(Lib.trimLeftS s.data.toList [48,49,50,51,52,53,54,55,56,57]).toArray⟩)∧Ext w w' :=
 (Any.strings_TrimLeft_laid Tryz.lays161 (by kernel_rfl) s ⟨#[48,49,50,51,52,53,54,55,56,57]⟩ w (by decide) (ascii_of_all (by decide))).mono fun e w' h=>⟨h.1,⟨h.2⟩⟩
theorem trim_any (s:ByteArray) (w:World) (hs:s.size ≤ 4000):Calls Tryz.prog 261 #[.string s,.string ⟨#[48,49,50,51,52,53,54,55,56,57]⟩] w fun e w'=>e=.returned (.string ⟨(Lib.trimS s.data.toList [48,49,50,51,52,53,54,55,56,57]).toArray⟩)∧Ext w w' :=
 (Any.strings_Trim_laid Tryz.lays160 (by kernel_rfl) s ⟨#[48,49,50,51,52,53,54,55,56,57]⟩ w (by omega) (by decide) (ascii_of_all (by decide))).mono fun e w' h=>⟨h.1,⟨h.2⟩⟩
theorem base_wide (s:ByteArray) (w:World) (hs:s.size ≤ 4611686018427387904) (g:Laid w):Calls Tryz.prog 170 #[.string s] w fun e w'=>e=.returned (.tuple #[.agg (tyA (baseS s).1),.bool (baseS s).2])∧Ext w w':=by
 have HZ:Hid ((Tryz.prog.info? 32).map (·.size)=some 5):=by unfold Hid; kernel_rfl
 by_cases h1:s=⟨#[118,111,105,100]⟩
 ·subst h1
  clear g hs
  go_enter Tryz.func170,Tryz.ntmps170
  go_wp2_with fail
  exact bodyPost_ret (results_row_tmp rfl _ _ w.heap.size _ zTy (0,0) _ rfl (Blk.new w _ _) Tryz.underlying32 rfl HZ.out _ rfl) rfl ⟨rfl,exA⟩
 by_cases h2:s=⟨#[98,111,111,108]⟩
 ·subst h2
  clear g hs h1
  go_enter Tryz.func170,Tryz.ntmps170
  go_wp2_with fail
  exact bodyPost_ret (results_row_tmp rfl _ _ w.heap.size _ (tyA tBo) (0,0) _ rfl (Blk.new w _ _) Tryz.underlying32 rfl HZ.out _ rfl) rfl ⟨rfl,exA⟩
 by_cases h3:s=⟨#[116,121,112,101]⟩
 ·subst h3
  clear g hs h1 h2
  go_enter Tryz.func170,Tryz.ntmps170
  go_wp2_with fail
  exact bodyPost_ret (results_row_tmp rfl _ _ w.heap.size _ (tyA ⟨4,0,⟨#[]⟩,false,false⟩) (0,0) _ rfl (Blk.new w _ _) Tryz.underlying32 rfl HZ.out _ rfl) rfl ⟨rfl,exA⟩
 have e1:=bs_nl [118,111,105,100] h1
 have e2:=bs_nl [98,111,111,108] h2
 have e3:=bs_nl [116,121,112,101] h3
 have HB:Hid (baseS s=match readS s.data.toList with
  | some (sg,m)=>(⟨if sg then 3 else 2,m,⟨#[]⟩,false,false⟩,true)
  | none=>(⟨5,0,s,false,false⟩,isNameS s)):=by unfold Hid baseS; rw [if_neg h1,if_neg h2,if_neg h3]; rfl
 obtain ⟨rd,hrd⟩:∃ rd,readS s.data.toList=rd:=⟨_,rfl⟩
 have HR:=Lib.hid hrd
 rw [HB.out,hrd]
 clear hrd h1 h2 h3
 have HN:=Lib.hid (numRead_any s)
 have HG:=Lib.hid g
 clear g
 have B0:Hid (Blk (w.alloc (.cells zTy 32)) w.heap.size 32 zTy):=Blk.new w _ zTy
 cases rd with
 | none =>
  have hE:=readE_none HR.out
  go_enter Tryz.func170,Tryz.ntmps170
  go_wp2_with (first
   | (go_at_call 138; refine (HN.out _ (by omega)).mono ?_; rw [hE]; rintro r w2 ⟨rfl,x2⟩; have y2:=x2.facts; have z2:=x2.z0)
   | (go_at_call 86; refine (isName_any s _ (HG.out.ext (((Ext.refl w).alloc _).trans (x2.alloc _)))).mono ?_; rintro r w3 ⟨rfl,x3⟩; have x4:=(x2.alloc _).trans x3)
   | ((with_reducible show wpList _ _ _ (Oper.mk none (.store 32 (.tmp 2) _) _ _ _ _ :: _) _ _); refine wpList_store_row rfl _ _ _ rfl w.heap.size rfl _ zTy (tyA ⟨5,0,s,false,false⟩) (B0.out.ext x4) rfl rfl (tyA_one _) HZ.out ?_))
  exact bodyPost_ret (results_row_tmp rfl _ _ w.heap.size _ (tyA ⟨5,0,s,false,false⟩) (0,0) _ rfl ((B0.out.ext x4).row _) Tryz.underlying32 rfl HZ.out _ rfl) rfl ⟨rfl,(((Ext.refl w).alloc _).trans x4).setRow (Nat.le_refl _) _⟩
 | some r =>
  obtain ⟨sg,m⟩:=r
  have hE:=readE_some HR.out
  cases sg <;>
  ·go_enter Tryz.func170,Tryz.ntmps170
   go_wp2_with (first
    | (go_at_call 138; refine (HN.out _ (by omega)).mono ?_; rw [hE]; rintro r w2 ⟨rfl,x2⟩; have y2:=x2.facts; have z2:=x2.z0; have x4:=fun o=>x2.alloc o)
    | ((with_reducible show wpList _ _ _ (Oper.mk none (.store 32 (.tmp 2) _) _ _ _ _ :: _) _ _); refine wpList_store_row rfl _ _ _ rfl w.heap.size rfl _ zTy (tyA ⟨_,m,⟨#[]⟩,false,false⟩) (B0.out.ext (x4 _)) rfl rfl (tyA_one _) HZ.out ?_))
   exact bodyPost_ret (results_row_tmp rfl _ _ w.heap.size _ (tyA ⟨_,m,⟨#[]⟩,false,false⟩) (0,0) _ rfl ((B0.out.ext (x4 _)).row _) Tryz.underlying32 rfl HZ.out _ rfl) rfl ⟨rfl,(((Ext.refl w).alloc _).trans (x4 _)).setRow (Nat.le_refl _) _⟩
theorem base_any (s:ByteArray) (w:World) (hs:s.size ≤ 4000) (g:Laid w):Calls Tryz.prog 170 #[.string s] w fun e w'=>e=.returned (.tuple #[.agg (tyA (baseS s).1),.bool (baseS s).2])∧Ext w w':=base_wide s w (by omega) g
theorem head_data {s:ByteArray} (h0:0 < s.size):s.data.toList.head?=some s[0]:=by rw [data_cons s h0]; rfl
theorem digS_eq {s:ByteArray} (h0:0 < s.size):digS s.data.toList=(decide ((s.size:Int) ≤ 10) && (decide ((s.size:Int)=1) || ((s[0].toNat:Int) != 48))):=by
 have h1:(decide ((s.size:Int) ≤ 10))=decide (s.size ≤ 10):=by simp only [decide_eq_decide]; omega
 have h2:(decide ((s.size:Int)=1))=decide (s.size=1):=by simp only [decide_eq_decide]; omega
 have h3:s.data.toList.length=s.size:=(Lib.size_eq s).symm
 have h4:(s.data.toList.head? != some 48)=((s[0].toNat:Int) != 48):=by
  rw [head_data h0,Bool.eq_iff_iff]
  simp only [bne_iff_ne,ne_eq,Option.some.injEq]
  exact not_congr ⟨fun h=>by rw [h]; rfl,fun h=>UInt8.toNat_inj.1 (by have h5:(48:UInt8).toNat=48:=rfl; omega)⟩
 unfold digS
 rw [h1,h2,h3,h4]
theorem isDigits_any (s:ByteArray) (w:World) (h0:0 < s.size):Calls Tryz.prog 258 #[.string s] w fun e w'=>e=.returned (.bool (digS s.data.toList))∧w=w':=by
 rw [digS_eq h0]
 have hi:(0:Int) < (s.size:Int):=by omega
 go_enter Tryz.func258,Tryz.ntmps258
 go_wp2_with fail
 all_goals
  go_ret
  refine ⟨?_,rfl⟩
  congr 2
  first
   | (simp [*]; done)
   | (rw [decide_eq_false (by omega)]; rfl)
theorem dec_lt:∀ (l:List UInt8) (n:Nat),l.all isDg=true → l.foldl (fun n c=>10 * n + (c.toNat - 48)) n + 1 ≤ (n + 1) * 10 ^ l.length
 | [],n,_=>by simp
 | c :: l,n,h=>by
  rw [List.all_cons,Bool.and_eq_true] at h
  have h1:=dec_lt l (10 * n + (c.toNat - 48)) h.2
  have h2:c.toNat - 48 ≤ 9:=by
   have:=h.1
   unfold isDg isDig at this
   simp at this
   omega
  rw [List.foldl_cons,List.length_cons,Nat.pow_succ]
  have h3:(10 * n + (c.toNat - 48) + 1) * 10 ^ l.length ≤ (10 * (n + 1)) * 10 ^ l.length:=Nat.mul_le_mul_right _ (by omega)
  have h4:10 * (n + 1) * 10 ^ l.length=(n + 1) * (10 ^ l.length * 10):=by rw [Nat.mul_comm 10,Nat.mul_assoc,Nat.mul_comm 10]
  omega
theorem decS_small {l:List UInt8} (h:l.all isDg=true) (hl:l.length ≤ 10):decS l < 10000000000:=by
 have h1:=dec_lt l 0 h
 have h2:10 ^ l.length ≤ 10 ^ 10:=Nat.pow_le_pow_right (by decide) hl
 unfold decS
 omega
theorem decS_take {l:List UInt8} {k:Nat} (hk:k < l.length):decS (l.take (k + 1))=10 * decS (l.take k) + (l[k].toNat - 48):=by
 unfold decS
 rw [List.take_add_one,List.foldl_append,List.getElem?_eq_getElem hk]
 rfl
theorem decimal_any (s:ByteArray) (w:World) (hd:s.data.toList.all isDg=true) (hs:s.size ≤ 10):Calls Tryz.prog 259 #[.string s] w fun e w'=>e=.returned (.int .i64 (decS s.data.toList))∧Ext w w':=by
 have hcv:=run_bytes_of_string (P:=Tryz.prog) w 9 135 5 s Tryz.underlying9 Tryz.underlying135 Tryz.underlying5
 have hl:s.data.toList.length=s.size:=(Lib.size_eq s).symm
 have HL:=Lib.hid hl
 have HD:=Lib.hid hd
 clear hl hd
 go_enter Tryz.func259,Tryz.ntmps259
 go_wp2_with fail
 generalize grownCap w s.size 0 5 = cap
 have HC:Hid (∀ j,(hj:j < s.data.toList.length) → (w.alloc (.cells (bytesRow s cap) 5 ((bytesRow s cap).size,(bytesRow s cap).size + 1))).drew.cell? ⟨w.heap.size,j,none⟩=some (.int .u8 (s.data.toList[j].toNat:Int))):=fun j hj=>by
  have h1:j < s.data.size:=by simpa using hj
  refine (cell_of_row _ w.heap.size j (bytesRow s cap) _ _ (heap_alloc_new w _)).trans ?_
  rw [bytesRow_at s cap j h1]
  simp
 have X1:Hid (Ext w ((w.alloc (.cells (bytesRow s cap) 5 ((bytesRow s cap).size,(bytesRow s cap).size + 1))).drew)):=((Ext.refl w).alloc _).drew
 generalize (w.alloc (.cells (bytesRow s cap) 5 ((bytesRow s cap).size,(bytesRow s cap).size + 1))).drew=w1 at HC X1 ⊢
 go_loopw [3,9] (fun vn vi wr=>∃ k:Nat,k ≤ s.size∧vi=.int .i64 k∧vn=.int .i64 (decS (s.data.toList.take k))∧wr=w1) (fun _ vi _=>s.size - (intOf vi).toNat)
 case atStart=>exact ⟨0,Nat.zero_le _,rfl,rfl,rfl⟩
 case round =>
  obtain ⟨k,hk,rfl,rfl,rfl⟩:=hrel
  by_cases hlt:k < s.size
  ·have hkl:k < s.data.toList.length:=by have:=HL.out; omega
   have hc:=HC.out k hkl
   have hi1:(k:Int) < (s.size:Int):=by omega
   have hsm:decS (s.data.toList.take k) < 10000000000:=decS_small (List.all_eq_true.2 fun x hx=>List.all_eq_true.1 HD.out x (List.mem_of_mem_take hx)) (by rw [List.length_take]; omega)
   have h48:48 ≤ s.data.toList[k].toNat∧s.data.toList[k].toNat ≤ 57:=by
    have:=List.all_eq_true.1 HD.out _ (List.getElem_mem hkl)
    simp only [isDg,isDig,Bool.and_eq_true,decide_eq_true_eq] at this
    exact this
   have hnx:=decS_take hkl
   generalize s.data.toList[k].toNat=c at hc h48 hnx
   generalize decS (s.data.toList.take k)=d at hsm hnx ⊢
   have hw1:IntKind.i64.wrap (10 * (d:Int))=10 * (d:Int):=IntWalk.i64_in _ (by omega)
   have hw2:IntKind.u8.wrap ((c:Int) - 48)=(c:Int) - 48:=IntWalk.u8_in _ (by omega)
   have hw3:IntKind.i64.wrap (10 * (d:Int) + ((c:Int) - 48))=10 * (d:Int) + ((c:Int) - 48):=IntWalk.i64_in _ (by omega)
   have hw4:IntKind.i64.wrap ((k:Int) + 1)=(k:Int) + 1:=IntWalk.i64_in _ (by omega)
   have hw5:IntKind.i64.wrap ((c:Int) - 48)=(c:Int) - 48:=IntWalk.i64_in _ (by omega)
   go_wp2_with fail
   refine ⟨⟨k + 1,by omega,by go_num,by rw [hnx]; congr 1; omega,trivial⟩,by simp [intOf]; omega⟩
  ·obtain rfl:k=s.size:=by omega
   have hi1:¬ (s.size:Int) < (s.size:Int):=by omega
   have ht:s.data.toList.take s.size=s.data.toList:=by rw [← HL.out]; exact List.take_length
   rw [ht]
   go_wp2_with fail
   go_ret
   exact ⟨rfl,X1.out⟩
theorem isTy (t:Ty) (w:World) (g:Laid w):Calls Tryz.prog 87 #[.agg (tyA t)] w fun r w'=>r=.returned (.bool (isTypeS t))∧Ext w w':=isType_any t.base t.bits t.name t.opt t.err w g
theorem tPlain_any (t:Ty) (w:World) (g:Laid w):Calls Tryz.prog 93 #[.agg (tyA t)] w fun r w'=>r=.returned (.bool (isPlainS t))∧Ext w w':=by
 obtain ⟨i,hi⟩:∃ i,isTypeS t=i:=⟨_,rfl⟩
 have HT:=Lib.hid (isTy t)
 have HI:=Lib.hid hi
 have HG:=Lib.hid g
 unfold tyA
 rw [show isPlainS t=(isTypeS t && !t.opt && !t.err) from rfl,hi]
 clear hi g
 cases i
 all_goals
  go_enter Tryz.func93,Tryz.ntmps93
  go_wp2_with (first
   | (go_at_call 87; refine (HT.out _ (HG.out.ext ((Ext.refl w).alloc _))).mono ?_; rw [HI.out]; rintro r w1 ⟨rfl,x1⟩; have y1:=x1.facts; have z1:=x1.z0))
  all_goals
   go_ret
   exact ⟨ret_bool (by simp [*]),exA⟩
def isCountS (t:Ty):Bool:=isPlainS t && ((t.base == 2 || t.base == 3) || t.base == 5)
def isWholeS (t:Ty):Bool:=isPlainS t && (t.base != 0 && t.base != 4)
theorem isCount_any (t:Ty) (w:World) (g:Laid w):Calls Tryz.prog 200 #[.agg (tyA t)] w fun r w'=>r=.returned (.bool (isCountS t))∧Ext w w':=by
 obtain ⟨i,hi⟩:∃ i,isPlainS t=i:=⟨_,rfl⟩
 have HT:=Lib.hid (tPlain_any t)
 have HI:=Lib.hid hi
 have HG:=Lib.hid g
 unfold tyA
 rw [show isCountS t=(isPlainS t && ((t.base == 2 || t.base == 3) || t.base == 5)) from rfl,hi]
 clear hi g
 cases i
 all_goals
  go_enter Tryz.func200,Tryz.ntmps200
  go_wp2_with (first
   | (go_at_call 93; refine (HT.out _ (HG.out.ext ((Ext.refl w).alloc _))).mono ?_; rw [HI.out]; rintro r w1 ⟨rfl,x1⟩; have y1:=x1.facts; have z1:=x1.z0)
   | (go_at_call 94; refine (isNumbers_any _ _).mono ?_; rintro r w2 ⟨rfl,rfl⟩))
  all_goals
   go_ret
   exact ⟨ret_bool (by simp [*]),exA⟩
theorem isWhole_any (t:Ty) (w:World) (g:Laid w):Calls Tryz.prog 201 #[.agg (tyA t)] w fun r w'=>r=.returned (.bool (isWholeS t))∧Ext w w':=by
 obtain ⟨i,hi⟩:∃ i,isPlainS t=i:=⟨_,rfl⟩
 have HT:=Lib.hid (tPlain_any t)
 have HI:=Lib.hid hi
 have HG:=Lib.hid g
 unfold tyA
 rw [show isWholeS t=(isPlainS t && (t.base != 0 && t.base != 4)) from rfl,hi]
 clear hi g
 cases i
 all_goals
  go_enter Tryz.func201,Tryz.ntmps201
  go_wp2_with (first
   | (go_at_call 93; refine (HT.out _ (HG.out.ext ((Ext.refl w).alloc _))).mono ?_; rw [HI.out]; rintro r w1 ⟨rfl,x1⟩; have y1:=x1.facts; have z1:=x1.z0))
  all_goals
   go_ret
   exact ⟨ret_bool (by simp [*]),exA⟩
theorem plain_bits {t:Ty} (h:isPlainS t=true) (hb:t.base=2 ∨ t.base=3):1 ≤ t.bits∧t.bits ≤ 31:=by
 unfold isPlainS at h
 simp only [Bool.and_eq_true] at h
 have h1:=h.1.1
 unfold isTypeS at h1
 rcases hb with hb | hb <;> simp [hb,bitsOk] at h1 <;> omega
theorem isNum_any (t:Ty) (n:Int) (w:World) (g:Laid w):Calls Tryz.prog 146 #[.agg (tyA t),.int .i64 n] w fun r w'=>r=.returned (.bool (isNumS t n))∧Ext w w':=by
 have HT:=Lib.hid (tPlain_any t)
 have HG:=Lib.hid g
 have HF:=Lib.hid (fun w' h1 h2=>nFits_any (t.base == 3) t.bits n w' h1 h2)
 have HN:=Lib.hid (intOf_any t.base t.bits t.name t.opt t.err)
 cases hi:isPlainS t
 ·have hs:isNumS t n=false:=by unfold isNumS; rw [hi]; rfl
  have HI:=Lib.hid hi
  rw [hs]
  unfold tyA
  clear hi hs g
  go_enter Tryz.func146,Tryz.ntmps146
  go_wp2_with (first
   | (go_at_call 93; refine (HT.out _ (HG.out.ext ((Ext.refl w).alloc _))).mono ?_; rw [HI.out]; rintro r w1 ⟨rfl,x1⟩; have y1:=x1.facts; have z1:=x1.z0))
  go_ret
  exact ⟨rfl,exA⟩
 ·have HI:=Lib.hid hi
  by_cases h1:t.base=1
  ·have hs:isNumS t n=(n == 0 || n == 1):=by unfold isNumS; rw [hi,if_pos h1]; rfl
   have h1b:(t.base == 1)=true:=by simpa using h1
   rw [hs]
   unfold tyA
   clear hi hs g h1
   go_enter Tryz.func146,Tryz.ntmps146
   go_wp2_with (first
    | (go_at_call 93; refine (HT.out _ (HG.out.ext ((Ext.refl w).alloc _))).mono ?_; rw [HI.out]; rintro r w1 ⟨rfl,x1⟩; have y1:=x1.facts; have z1:=x1.z0))
   all_goals
    go_ret
    exact ⟨ret_bool (by simp [*]),exA⟩
  ·have h1b:(t.base == 1)=false:=by simpa using h1
   by_cases h5:t.base=5
   ·have hs:isNumS t n=(decide (-1073741824 ≤ n) && decide (n < 1073741824)):=by unfold isNumS; rw [hi,if_neg h1,if_pos h5]; rfl
    have h5b:(t.base == 5)=true:=by simpa using h5
    rw [hs]
    unfold tyA
    clear hi hs g h5
    go_enter Tryz.func146,Tryz.ntmps146
    go_wp2_with (first
     | (go_at_call 93; refine (HT.out _ (HG.out.ext ((Ext.refl w).alloc _))).mono ?_; rw [HI.out]; rintro r w1 ⟨rfl,x1⟩; have y1:=x1.facts; have z1:=x1.z0))
    all_goals
     go_ret
     exact ⟨ret_bool (by first | (simp [*]; done) | (simp [*]; intros; omega)),exA⟩
   ·have h5b:(t.base == 5)=false:=by simpa using h5
    have hs:isNumS t n=((t.base == 2 || t.base == 3) && fitI (t.base == 3) t.bits n):=by unfold isNumS; rw [hi,if_neg h1,if_neg h5]; rfl
    rw [hs]
    unfold tyA
    cases hb:(t.base == 2 || t.base == 3)
    ·have HB:=Lib.hid hb
     clear hi hs g hb
     go_enter Tryz.func146,Tryz.ntmps146
     go_wp2_with (first
      | (go_at_call 93; refine (HT.out _ (HG.out.ext ((Ext.refl w).alloc _))).mono ?_; rw [HI.out]; rintro r w1 ⟨rfl,x1⟩; have y1:=x1.facts; have z1:=x1.z0)
      | (go_at_call 94; refine (isNumbers_any _ _).mono ?_; rw [HB.out]; rintro r w2 ⟨rfl,rfl⟩))
     go_ret
     exact ⟨rfl,exA⟩
    ·have HB:=Lib.hid hb
     obtain ⟨b1,b2⟩:=plain_bits hi (by simpa using hb)
     clear hi hs g hb
     go_enter Tryz.func146,Tryz.ntmps146
     go_wp2_with (first
      | (go_at_call 93; refine (HT.out _ (HG.out.ext ((Ext.refl w).alloc _))).mono ?_; rw [HI.out]; rintro r w1 ⟨rfl,x1⟩; have y1:=x1.facts; have z1:=x1.z0)
      | (go_at_call 94; refine (isNumbers_any _ _).mono ?_; rw [HB.out]; rintro r w2 ⟨rfl,rfl⟩)
      | (go_at_call 140; refine (HN.out _).mono ?_; rintro r w3 ⟨rfl,x3⟩)
      | (go_at_call 202; refine (HF.out _ b1 b2).mono ?_; rintro r w4 ⟨rfl,x4⟩))
     go_ret
     exact ⟨rfl,exA⟩
end Go.Proofs.YtmmnhbhnjiajhaaGreatDoor.c
