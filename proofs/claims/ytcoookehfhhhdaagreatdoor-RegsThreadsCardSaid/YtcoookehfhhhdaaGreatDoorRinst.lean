/- Contract of regs.bound.isInst. The table strings.asciiSpace holds what its text lays. Contracts of regs.index, and of the library's IndexFunc and ContainsFunc over register code. Conditions: lengths. Contract of regs.isFunc. The table strings.asciiSpace holds what its text lays; lengths are bounded. Contracts of regs.size, Validate, Size. The table strings.asciiSpace holds what its text lays; sizes are bounded. What is right of register code, told plainly: the parts of validity that a run leans on, and how many slots a function needs. No condition. -/
import Derived.Test.YtcoookehfhhhdaaGreatDoorEqb
import Derived.Test.YtcoookehfhhhdaaGreatDoorRgIa
import Derived.Test.YtcoookehfhhhdaaGreatDoorRgIb
import Derived.Test.YtcoookehfhhhdaaGreatDoorRgId
import Derived.Test.YtcoookehfhhhdaaGreatDoorRgIg
import Derived.Test.YtcoookehfhhhdaaGreatDoorRgV
namespace Go.Proofs.YtcoookehfhhhdaaGreatDoor.c
open Go.RowKit
set_option linter.unusedVariables false
set_option maxRecDepth 100000
set_option maxHeartbeats 3200000
set_option linter.unusedSimpArgs false
theorem isInst_any (regs code:Int) (K:Nat) (caps:Array Value) (pb:Bool) (x:Rg) (w:World) (g:Laid w) (h1:1 ≤ regs) (h2:regs ≤ 6) (hc1:1 ≤ code) (hc2:code ≤ 1000000) (hal:x.args.length ≤ 9223372036854775806)
  (hK:Enters K) (HP:∀ w1,Ext w w1 → Calls Tryz.prog K (#[.string x.name,.int .i64 x.args.length] ++ caps) w1 fun e w2=>e=.returned (.bool pb)∧Ext w1 w2) (hA:NumsAt w x.A x.args) (hin:In64 x.op) :
  Calls Tryz.prog 100 #[.agg #[.int .i64 regs,.int .i64 code,.func (.func K) #[] caps],x.val] w fun e w'=>e=.returned (.bool (instR pb regs code x))∧Ext w w':=by
 obtain ⟨op,d,a,b,ty,nm,A,cap,args⟩:=x
 unfold Rg.val
 simp only [] at *
 have h:(op=1) ∨ (op=12) ∨ (op=15) ∨ (op=2 ∨ op=6 ∨ op=9) ∨ op=3 ∨ op=4 ∨ op=16 ∨ (op=5 ∨ op=7 ∨ op=8) ∨ (op=10 ∨ op=11 ∨ op=13) ∨ op=17 ∨ op=0 ∨ op=14 ∨ (105 ≤ op∧op ≤ 117) ∨ (118 ≤ op∧op ≤ 123) ∨ (op < 0 ∨ (18 ≤ op∧op < 105) ∨ 123 < op):=by omega
 rcases h with h | h | h | h | h | h | h | h | h | h | h | h | h | h | h
 ·exact inst_null regs code _ pb op d a b ty nm A cap args w g h1 h2 hc1 hc2 hal h
 ·exact inst_jump regs code _ pb op d a b ty nm A cap args w g h1 h2 hc1 hc2 hal h
 ·exact inst_ret regs code _ pb op d a b ty nm A cap args w g h1 h2 hc1 hc2 hal h
 ·exact inst_move regs code _ pb op d a b ty nm A cap args w g h1 h2 hc1 hc2 hal h
 ·exact inst_load regs code _ pb op d a b ty nm A cap args w g h1 h2 hc1 hc2 hal h
 ·exact inst_store regs code _ pb op d a b ty nm A cap args w g h1 h2 hc1 hc2 hal h
 ·exact inst_error regs code _ pb op d a b ty nm A cap args w g h1 h2 hc1 hc2 hal h
 ·exact inst_kind regs code _ pb op d a b ty nm A cap args w g h1 h2 hc1 hc2 hal h
 ·exact inst_lead regs code _ pb op d a b ty nm A cap args w g h1 h2 hc1 hc2 hal h
 ·exact inst_stopR regs code _ pb op d a b ty nm A cap args w g h1 h2 hc1 hc2 hal h
 ·exact inst_li regs code _ pb op d a b ty nm A cap args w g h1 h2 hc1 hc2 hal h
 ·exact inst_callI regs code K caps pb op d a b ty nm A cap args w g h1 h2 hc1 hc2 hal hK HP hA h
 ·exact inst_typed regs code _ pb op d a b ty nm A cap args w g h1 h2 hc1 hc2 hal h
 ·exact inst_cmp regs code _ pb op d a b ty nm A cap args w g h1 h2 hc1 hc2 hal h
 ·exact inst_none regs code _ pb op d a b ty nm A cap args w g h1 h2 hc1 hc2 hal hin h
theorem indexFuncF_any (A:Option Addr) (n cap:Nat) (K:Nat) (caps:Array Value) (w:World) (hn:n ≤ 9223372036854775807)
  (c:Nat → Nat → Value) (hA:At w A n 9 c) (hK:Enters K) (p:Nat → Bool)
  (hp:∀ i w1,i < n → Ext w w1 → Calls Tryz.prog K (#[.agg #[c i 0,c i 1,c i 2,c i 3,c i 4,c i 5,c i 6,c i 7,c i 8]] ++ caps) w1 fun e w2=>e=.returned (.bool (p i))∧Ext w1 w2) :
  Calls Tryz.prog 102 #[.slice A n cap,.func (.func K) #[] caps] w fun e w'=>e=.returned (.int .i64 (findI p n))∧Ext w w':=by
 have HP:=Lib.hid hp; clear hp
 go_enter Tryz.func102,Tryz.ntmps102
 go_wp2
 go_loopw [5,8] (fun _ i wr=>∃ k:Nat,k ≤ n∧i=.int .i64 k∧(∀ j,j < k → p j=false)∧Ext w wr) (fun _ i _=>n - (intOf i).toNat)
 case atStart=>exact ⟨0,Nat.zero_le _,rfl,by omega,Ext.refl _⟩
 case round =>
  obtain ⟨k,hk,rfl,hnone,hx⟩:=hrel
  have HN:=Lib.hid hnone; clear hnone
  by_cases hlt:k < n
  ·obtain ⟨b,off,rfl,hb,c0,c1,c2,c3,c4,c5,c6,c7,c8⟩:=(hA.ext hx).nine hlt
   go_wp2_with fail
   have HP1:=Lib.hid (HP.out k wr hlt hx)
   simp only [hK _ _]
   go_wp2_with fail
   refine (HP1.out).mono ?_
   rintro e w1 ⟨rfl,x1⟩
   cases hpk:p k
   ·go_wp2_with fail
    go_roundw
    case rel=>exact ⟨k + 1,by omega,by go_num,(fun j hj=>by rcases Nat.lt_or_ge j k with h | h; exact HN.out j h; obtain rfl:j=k:=(by omega); exact hpk),hx.trans x1⟩
    case measure=>simp [intOf]; omega
   ·go_wp2_with fail
    go_ret
    exact ⟨ret_int (findI_hit hlt hpk HN.out).symm,hx.trans x1⟩
  ·go_wp2_with fail
   go_ret
   exact ⟨ret_int (findI_none (fun j hj=>HN.out j (by omega))).symm,hx⟩

theorem enters_gindex1:Enters 103 := Enters.of Tryz.func103 (by kernel_rfl) (by kernel_rfl)
theorem gindex1_any (f:Rf) (bn:Nat) (n:ByteArray) (w:World) (hc:w.cell? ⟨bn,0,none⟩=some (.string n)) (hb:bn < w.heap.size) :
  Calls Tryz.prog 103 #[f.val,.pointer (some ⟨bn,0,none⟩)] w fun e w'=>e=.returned (.bool (f.name.toList == n.toList))∧Ext w w':=by
 unfold Rf.val
 go_enter Tryz.func103,Tryz.ntmps103
 go_wp2
 go_ret
 exact ⟨rfl,exA⟩
theorem gindex_any (A:Option Addr) (cap:Nat) (l:List Rf) (n:ByteArray) (w:World) (hA:RfAt w A l) (hl:l.length ≤ 9223372036854775807) :
  Calls Tryz.prog 56 #[.slice A l.length cap,.string n] w fun e w'=>e=.returned (.int .i64 (indexR l n))∧Ext w w':=by
 go_enter Tryz.func56,Tryz.ntmps56
 go_wp2_with fail
 refine (indexFuncF_any A l.length cap 103 #[.pointer (some ⟨w.heap.size,0,none⟩)] _ hl (fun i j=>rfC (l.getD i default) j) (hA.top.ext ((Ext.refl _).alloc _)) enters_gindex1 (fun k=>(l.getD k default).name.toList == n.toList) (fun i w1 hi x=>?_)).mono ?_
 ·exact gindex1_any (l.getD i default) w.heap.size n w1 ((x.cell (p:=⟨w.heap.size,0,none⟩) (by simp)).trans (by simp [go_sem])) x.z0
 ·rintro e w1 ⟨rfl,x1⟩
  go_wp2_with fail
  go_ret
  exact ⟨rfl,exA⟩

theorem indexFuncG_any (A:Option Addr) (n cap:Nat) (K:Nat) (caps:Array Value) (w:World) (hn:n ≤ 9223372036854775807)
  (c:Nat → Nat → Value) (hA:At w A n 11 c) (hK:Enters K) (p:Nat → Bool)
  (hp:∀ i w1,i < n → Ext w w1 → Calls Tryz.prog K (#[.agg #[c i 0,c i 1,c i 2,c i 3,c i 4,c i 5,c i 6,c i 7,c i 8,c i 9,c i 10]] ++ caps) w1 fun e w2=>e=.returned (.bool (p i))∧Ext w1 w2) :
  Calls Tryz.prog 136 #[.slice A n cap,.func (.func K) #[] caps] w fun e w'=>e=.returned (.int .i64 (findI p n))∧Ext w w':=by
 have HP:=Lib.hid hp; clear hp
 go_enter Tryz.func136,Tryz.ntmps136
 go_wp2
 go_loopw [5,8] (fun _ i wr=>∃ k:Nat,k ≤ n∧i=.int .i64 k∧(∀ j,j < k → p j=false)∧Ext w wr) (fun _ i _=>n - (intOf i).toNat)
 case atStart=>exact ⟨0,Nat.zero_le _,rfl,by omega,Ext.refl _⟩
 case round =>
  obtain ⟨k,hk,rfl,hnone,hx⟩:=hrel
  have HN:=Lib.hid hnone; clear hnone
  by_cases hlt:k < n
  ·obtain ⟨b,off,rfl,hb,c0,c1,c2,c3,c4,c5,c6,c7,c8,c9,c10⟩:=(hA.ext hx).eleven hlt
   go_wp2_with fail
   have HP1:=Lib.hid (HP.out k wr hlt hx)
   simp only [hK _ _]
   go_wp2_with fail
   refine (HP1.out).mono ?_
   rintro e w1 ⟨rfl,x1⟩
   cases hpk:p k
   ·go_wp2_with fail
    go_roundw
    case rel=>exact ⟨k + 1,by omega,by go_num,(fun j hj=>by rcases Nat.lt_or_ge j k with h | h; exact HN.out j h; obtain rfl:j=k:=(by omega); exact hpk),hx.trans x1⟩
    case measure=>simp [intOf]; omega
   ·go_wp2_with fail
    go_ret
    exact ⟨ret_int (findI_hit hlt hpk HN.out).symm,hx.trans x1⟩
  ·go_wp2_with fail
   go_ret
   exact ⟨ret_int (findI_none (fun j hj=>HN.out j (by omega))).symm,hx⟩
theorem containsFuncG_any (A:Option Addr) (n cap:Nat) (K:Nat) (caps:Array Value) (w:World) (hn:n ≤ 9223372036854775807)
  (c:Nat → Nat → Value) (hA:At w A n 11 c) (hK:Enters K) (p:Nat → Bool)
  (hp:∀ i w1,i < n → Ext w w1 → Calls Tryz.prog K (#[.agg #[c i 0,c i 1,c i 2,c i 3,c i 4,c i 5,c i 6,c i 7,c i 8,c i 9,c i 10]] ++ caps) w1 fun e w2=>e=.returned (.bool (p i))∧Ext w1 w2) :
  Calls Tryz.prog 98 #[.slice A n cap,.func (.func K) #[] caps] w fun e w'=>e=.returned (.bool (anyR p n))∧Ext w w':=by
 have HP:=Lib.hid hp; clear hp
 go_enter Tryz.func98,Tryz.ntmps98
 go_wp2_with fail
 refine (indexFuncG_any A n cap K caps w hn c hA hK p HP.out).mono ?_
 rintro e w1 ⟨rfl,x1⟩
 go_wp2_with fail
 go_ret
 exact ⟨rfl,x1⟩
theorem gindex_len (A:Option Addr) (cap:Nat) (l:List Rf) {len:Nat} (n:ByteArray) (w:World) (h:len=l.length) (hA:RfAt w A l) (hl:len ≤ 9223372036854775807) :
  Calls Tryz.prog 56 #[.slice A len cap,.string n] w fun e w'=>e=.returned (.int .i64 (indexR l n))∧Ext w w':=by
 subst h
 exact gindex_any A cap l n w hA hl
def callB (l:List Rf) (nm:ByteArray) (n:Int):Bool:=decide (0 ≤ indexR l nm) && ((l.getD (indexR l nm).toNat default).params == n)
theorem enters_isFuncP:Enters 97 := Enters.of Tryz.func97 (by kernel_rfl) (by kernel_rfl)
theorem isFuncP_any (l:List Rf) (A:Option Addr) (cap:Nat) (bl:Nat) (nm:ByteArray) (n:Int) (w:World) (hA:RfAt w A l) (hl:l.length ≤ 9223372036854775807) (hc:w.cell? ⟨bl,0,none⟩=some (.slice A l.length cap)) (hb:bl < w.heap.size) :
  Calls Tryz.prog 97 #[.string nm,.int .i64 n,.pointer (some ⟨bl,0,none⟩)] w fun e w'=>e=.returned (.bool (callB l nm n))∧Ext w w':=by
 have HA:=Lib.hid hA
 clear hA
 rcases findI_cases (fun k=>(l.getD k default).name.toList == nm.toList) l.length with ⟨hi,_⟩ | ⟨k,hi,hk,_,_⟩
 ·have HI:Hid (indexR l nm=-1):=hi
  have HR:Hid (callB l nm n=false):=by unfold Hid callB; rw [HI.out]; rfl
  clear hi
  go_enter Tryz.func97,Tryz.ntmps97
  go_wp2_with (first
   | (go_at_call 56; refine (gindex_any A cap l nm _ HA.out hl).mono ?_; rw [HI.out]; rintro r w1 ⟨rfl,x1⟩; have y1:=x1.facts))
  go_ret
  exact ⟨ret_bool HR.out.symm,exA⟩
 ·have HI:Hid (indexR l nm=(k:Int)):=hi
  obtain ⟨f,hf⟩:∃ f,f=l.getD k default:=⟨_,rfl⟩
  have HR:Hid (callB l nm n=(f.params == n)):=by unfold Hid callB; rw [HI.out,Int.toNat_natCast,← hf,decide_eq_true (by omega)]; rfl
  have HF:=Lib.hid hf
  have k0:(0:Int) ≤ (k:Int):=by omega
  have k1:(k:Int) < (l.length:Int):=by omega
  clear hi hf
  go_enter Tryz.func97,Tryz.ntmps97
  go_wp2_with (first
   | (go_at_call 56; refine (gindex_any A cap l nm _ HA.out hl).mono ?_; rw [HI.out]; rintro r w1 ⟨rfl,x1⟩; have y1:=x1.facts; obtain ⟨ba,off,rfl,hba,_,c1,_⟩:=(HA.out.ext x1).at_ hk HF.out))
  go_ret
  exact ⟨ret_bool HR.out.symm,exA⟩
theorem enters_isFuncX:Enters 99 := Enters.of Tryz.func99 (by kernel_rfl) (by kernel_rfl)
def bdC (regs code:Int) (bl:Nat):Array Value:=#[.int .i64 regs,.int .i64 code,.func (.func 97) #[] #[.pointer (some ⟨bl,0,none⟩)]]
theorem bdC_one (regs code:Int) (bl:Nat):∀ v ∈ (bdC regs code bl).toList,v.oneCell'=true:=by
 intro v hv
 unfold bdC at hv
 simp at hv
 rcases hv with rfl | rfl | rfl <;> rfl
theorem isFuncX_any (l:List Rf) (A:Option Addr) (cap:Nat) (regs code:Int) (bl bb:Nat) (x:Rg) (w:World) (g:Laid w) (hA:RfAt w A l) (hl:l.length ≤ 9223372036854775807) (h1:1 ≤ regs) (h2:regs ≤ 6) (hc1:1 ≤ code) (hc2:code ≤ 1000000) (hal:x.args.length ≤ 9223372036854775806)
  (hN:NumsAt w x.A x.args) (hin:In64 x.op) (hc:w.cell? ⟨bl,0,none⟩=some (.slice A l.length cap)) (hb:bl < w.heap.size) (hB:Blk w bb 153 (bdC regs code bl)) :
  Calls Tryz.prog 99 #[.agg #[.int .i64 x.op,.int .i64 x.d,.int .i64 x.a,.int .i64 x.b,.int .i64 x.ty.base,.int .i64 x.ty.bits,.string x.ty.name,.bool x.ty.opt,.bool x.ty.err,.string x.name,.slice x.A x.args.length x.cap],.pointer (some ⟨bb,0,none⟩)] w fun e w'=>e=.returned (.bool (!instR (callB l x.name x.args.length) regs code x))∧Ext w w':=by
 have b0:=hB.cell 0
 have b1:=hB.cell 1
 have b2:=hB.cell 2
 have zb:=hB.lt
 unfold bdC at b0 b1 b2
 simp only [List.getElem?_toArray,List.getElem?_cons_zero,List.getElem?_cons_succ] at b0 b1 b2
 have HI:Hid (∀ w',Ext w w' → Calls Tryz.prog 100 #[.agg #[.int .i64 regs,.int .i64 code,.func (.func 97) #[] #[.pointer (some ⟨bl,0,none⟩)]],x.val] w' fun e w2=>e=.returned (.bool (instR (callB l x.name x.args.length) regs code x))∧Ext w' w2):=by
  intro w' xx
  refine isInst_any regs code _ _ _ x w' (g.ext xx) h1 h2 hc1 hc2 hal enters_isFuncP (fun w1 x1=>?_) (hN.ext xx) hin
  exact isFuncP_any l A cap bl x.name _ w1 (hA.ext (xx.trans x1)) hl (((xx.trans x1).cell (p:=⟨bl,0,none⟩) hb).trans hc) (Nat.lt_of_lt_of_le hb (xx.trans x1).size)
 unfold Rg.val at HI
 clear hN hA hB hc
 go_enter Tryz.func99,Tryz.ntmps99
 go_wp2_with (first
  | (go_at_call 100; refine (HI.out _ exA).mono ?_; rintro r w1 ⟨rfl,x1⟩))
 go_ret
 exact ⟨rfl,exA⟩
def fcR (l:List Rf) (f:Rf):Bool :=
 isNameS f.name && (inB f.params 0 4 && (inB f.regs 1 6 && (isRanS f.ty && (decide (1 ≤ f.code.length) && (f.code.all (fun x=>instR (callB l x.name x.args.length) f.regs f.code.length x) && !goesR (f.code.getD (f.code.length - 1) default).op)))))
theorem all_anyR (l:List Rf) (f:Rf):(!anyR (fun i=>!instR (callB l (f.code.getD i default).name (f.code.getD i default).args.length) f.regs f.code.length (f.code.getD i default)) f.code.length)=f.code.all (fun x=>instR (callB l x.name x.args.length) f.regs f.code.length x):=by
 rw [Bool.eq_iff_iff,Bool.not_eq_true',Bool.eq_false_iff,Ne,anyR_iff,List.all_eq_true]
 constructor
 ·intro h x hx
  obtain ⟨j,hj,rfl⟩:=List.getElem_of_mem hx
  cases hi:instR (callB l f.code[j].name f.code[j].args.length) f.regs f.code.length f.code[j]
  ·refine absurd ⟨j,hj,?_⟩ h
   simp only [List.getD,List.getElem?_eq_getElem hj,Option.getD_some,hi]
   rfl
  ·rfl
 ·rintro h ⟨j,hj,hp⟩
  rw [h _ (getD_mem hj)] at hp
  cases hp
theorem gisFunc_any (l:List Rf) (A:Option Addr) (cap:Nat) (f:Rf) (w:World) (g:Laid w) (hA:RfAt w A l) (hl:l.length ≤ 9223372036854775807) (hfl:f.code.length ≤ 1000000) (hC:RgAt w f.A f.code) (hin:∀ x,x ∈ f.code → In64 x.op) (hal:∀ x,x ∈ f.code → x.args.length ≤ 9223372036854775806) :
  Calls Tryz.prog 55 #[.slice A l.length cap,f.val] w fun e w'=>e=.returned (.bool (fcR l f))∧Ext w w':=by
 have HA:=Lib.hid hA
 have HC:=Lib.hid hC
 have HIN:=Lib.hid hin
 have HAL:=Lib.hid hal
 clear hA hC hin hal
 have HFC:=Lib.hid (show fcR l f=(isNameS f.name && (inB f.params 0 4 && (inB f.regs 1 6 && (isRanS f.ty && (decide (1 ≤ f.code.length) && (f.code.all (fun x=>instR (callB l x.name x.args.length) f.regs f.code.length x) && !goesR (f.code.getD (f.code.length - 1) default).op)))))) from rfl)
 have HR:=Lib.hid (show isRanS f.ty=(isTypeS f.ty && decide (f.ty.base ≤ 3)) from rfl)
 have C1:Hid (Blk ((w.alloc (.cells #[.slice A l.length cap] 35)).alloc (.cells #[.string f.name,.int .i64 f.params,.int .i64 f.regs,.int .i64 f.ty.base,.int .i64 f.ty.bits,.string f.ty.name,.bool f.ty.opt,.bool f.ty.err,.slice f.A f.code.length f.cap] 45)) w.heap.size 35 #[.slice A l.length cap]):=(Blk.new _ _ _).alloc _
 have HZ:Hid ((Tryz.prog.info? 153).map (·.size)=some 3):=by unfold Hid; kernel_rfl
 unfold Rf.val
 by_cases h0:f.code.length=0
 ·have H0:Hid (fcR l f=false):=by unfold Hid; rw [HFC.out,h0]; simp
  have e0:((f.code.length:Int) == 0)=true:=by rw [h0]; rfl
  have H1:=Lib.hid h0
  clear HFC h0
  cases hT:isTypeS f.ty
  all_goals
   have HT:=Lib.hid hT
   clear hT
   go_enter Tryz.func55,Tryz.ntmps55
   go_wp2_with (first
    | (go_at_call 95; refine (isName_any f.name _ (g.ext exA)).mono ?_; rintro r w1 ⟨rfl,x1⟩; have y1:=x1.facts; have z1:=x1.z0; have zz1:w.heap.size < w1.heap.size:=(by simp at z1; omega); have zy1:w.heap.size + 1 < w1.heap.size:=(by simp at z1; omega))
    | (go_at_call 78; refine (gwithin_any _ _ _ _).mono ?_; rintro r w' ⟨rfl,rfl⟩)
    | (go_at_call 96; refine (gvalidate_ty f.ty _ (g.ext exA)).mono ?_; rw [HT.out]; rintro r w2 ⟨rfl,x2⟩; have y2:=x2.facts; have z2:=x2.size; have zz2:w.heap.size < w2.heap.size:=Nat.lt_of_lt_of_le zz1 z2; have zy2:w.heap.size + 1 < w2.heap.size:=Nat.lt_of_lt_of_le zy1 z2))
   all_goals (go_ret; exact ⟨ret_bool H0.out.symm,exA⟩)
 have e0:((f.code.length:Int) == 0)=false:=by rw [beq_eq_false_iff_ne]; omega
 have hpos:(1:Int) ≤ (f.code.length:Int):=by omega
 have hpos2:f.code.length - 1 < f.code.length:=by omega
 have hsub:IntKind.i64.wrap ((f.code.length:Int) - 1)=((f.code.length - 1:Nat):Int):=by rw [IntWalk.i64_in _ (by omega)]; omega
 have HSUB:=Lib.hid hsub
 have HD1:Hid (decide (1 ≤ f.code.length)=true):=decide_eq_true (by omega)
 obtain ⟨p,hp⟩:∃ p:Nat → Bool,p=fun i=>!instR (callB l (f.code.getD i default).name (f.code.getD i default).args.length) f.regs f.code.length (f.code.getD i default):=⟨_,rfl⟩
 obtain ⟨q,hq⟩:∃ q,f.code.all (fun x=>instR (callB l x.name x.args.length) f.regs f.code.length x)=q:=⟨_,rfl⟩
 have HPQ:Hid (anyR p f.code.length=!q):=by unfold Hid; rw [← hq,← all_anyR,Bool.not_not,hp]
 have HP:=Lib.hid hp
 obtain ⟨lx,hlx⟩:∃ lx,lx=f.code.getD (f.code.length - 1) default:=⟨_,rfl⟩
 rw [hq,← hlx] at HFC
 have HLX:=Lib.hid hlx
 clear h0 hsub hp hq hlx
 cases hT:isTypeS f.ty
 all_goals
  have HT:=Lib.hid hT
  clear hT
  go_enter Tryz.func55,Tryz.ntmps55
  go_wp2_with (first
   | (go_at_call 95; refine (isName_any f.name _ (g.ext exA)).mono ?_; rintro r w1 ⟨rfl,x1⟩; have y1:=x1.facts; have z1:=x1.z0; have zz1:w.heap.size < w1.heap.size:=(by simp at z1; omega); have zy1:w.heap.size + 1 < w1.heap.size:=(by simp at z1; omega))
   | (go_at_call 78; refine (gwithin_any _ _ _ _).mono ?_; rintro r w' ⟨rfl,rfl⟩)
   | (go_at_call 96; refine (gvalidate_ty f.ty _ (g.ext exA)).mono ?_; rw [HT.out]; rintro r w2 ⟨rfl,x2⟩; have y2:=x2.facts; have z2:=x2.size; have zz2:w.heap.size < w2.heap.size:=Nat.lt_of_lt_of_le zz1 z2; have zy2:w.heap.size + 1 < w2.heap.size:=Nat.lt_of_lt_of_le zy1 z2)
   | ((with_reducible show wpList _ _ _ (Oper.mk none (.store 153 (.tmp 5) (.tmp 46)) _ _ _ _ :: _) _ _)
      refine store_new 153 #[.int .i64 0,.int .i64 0,.nilFunc] (bdC f.regs f.code.length w.heap.size) rfl _ _ rfl rfl rfl rfl HZ.out (bdC_one _ _ _) ?_
      intro w3 x3 B3
      have y3:=x3.facts
      have zz3:=Nat.lt_of_lt_of_le zz2 x3.size
      have zy3:=Nat.lt_of_lt_of_le zy2 x3.size
      have BB:=Lib.hid B3
      clear B3)
   | (go_at_call 98; refine (containsFuncG_any f.A f.code.length f.cap 99 _ _ (by omega) (fun i j=>rgC (f.code.getD i default) j) ((HC.out.ext exA).top) enters_isFuncX p ?_).mono ?_))
  all_goals try (go_ret; exact ⟨ret_bool (by rw [HFC.out,HR.out,HT.out]; first | (simp [*]; done) | (simp [*]; intros; omega)),exA⟩)
 case refine_1 =>
  have hr:inB f.regs 1 6=true:=by assumption
  have hr2:1 ≤ f.regs∧f.regs ≤ 6:=by unfold inB at hr; simpa using hr
  intro i w4 hi hx
  rw [HP.out]
  refine isFuncX_any l A cap f.regs f.code.length w.heap.size w2.heap.size (f.code.getD i default) w4 (g.ext exA) (HA.out.ext exA) hl hr2.1 hr2.2 (by omega) (by omega) (HAL.out _ (getD_mem hi)) ((HC.out.ext exA).sub _ (getD_mem hi)) (HIN.out _ (getD_mem hi)) ?_ ?_ (BB.out.ext hx)
  ·exact (C1.out.ext exA).cell 0
  ·exact (C1.out.ext exA).lt
 case refine_2 =>
  rintro e w4 rfl x4
  rw [HPQ.out]
  have y4:=x4.facts
  have zz4:=Nat.lt_of_lt_of_le zz3 x4.size
  have zy4:=Nat.lt_of_lt_of_le zy3 x4.size
  have hxx:Ext w w4:=exA
  obtain ⟨b,off,hfa,hb,c0,_⟩:=(HC.out.ext hxx).at_ (k:=f.code.length - 1) hpos2 HLX.out
  have hti:((f.code.length:Int) - 1).toNat=f.code.length - 1:=by omega
  cases q
  ·go_wp2_with fail
   go_ret
   exact ⟨ret_bool (by rw [HFC.out]; simp),exA⟩
  ·go_wp2_with (first
    | (go_at_call 101; refine (ggoes_any _ _).mono ?_; rintro r w' ⟨rfl,rfl⟩))
   go_ret
   exact ⟨ret_bool (by rw [HFC.out,HD1.out,HR.out,HT.out,decide_eq_true (show f.ty.base ≤ 3 by omega)]; simp [*]),exA⟩
def countR (l:List Rf):Nat:=(l.map fun f=>f.code.length).sum
theorem countR_snoc (l:List Rf) (k:Nat) (hk:k < l.length):countR (l.take (k + 1))=countR (l.take k) + (l.getD k default).code.length:=by
 unfold countR
 rw [List.take_succ_eq_append_getElem hk,List.map_append,List.sum_append]
 simp [List.getD,List.getElem?_eq_getElem hk]
theorem countR_le (l:List Rf) (k:Nat):countR (l.take k) ≤ countR l:=by
 unfold countR
 conv=>rhs; rw [← List.take_append_drop k l]
 rw [List.map_append,List.sum_append]
 omega
theorem countR_mem {l:List Rf} {f:Rf} (h:f ∈ l):f.code.length ≤ countR l:=by
 unfold countR
 induction l with
 | nil=>cases h
 | cons a t ih =>
  rw [List.map_cons,List.sum_cons]
  rcases List.mem_cons.1 h with rfl | h
  ·omega
  ·have:=ih h; omega
def validR (l:List Rf):Int :=
 if 48 < l.length ∨ 6000 < countR l then 3
 else if ∀ k,k < l.length → fcR l (l.getD k default)=true∧indexR l (l.getD k default).name=k then 0 else 1
def okToR (l:List Rf) (n:Nat):Prop:=∀ k,k < n → fcR l (l.getD k default)=true∧indexR l (l.getD k default).name=k
theorem validR_bad {l:List Rf} {k:Nat} (h0:¬ (48 < l.length ∨ 6000 < countR l)) (hk:k < l.length) (h:¬ (fcR l (l.getD k default)=true∧indexR l (l.getD k default).name=k)):validR l=1:=by
 unfold validR
 rw [if_neg h0,if_neg fun hh=>h (hh k hk)]
theorem validR_good {l:List Rf} (h0:¬ (48 < l.length ∨ 6000 < countR l)) (h:okToR l l.length):validR l=0:=by
 unfold validR
 rw [if_neg h0]
 exact if_pos h
theorem validR_large {l:List Rf} (h0:48 < l.length ∨ 6000 < countR l):validR l=3:=by
 unfold validR
 rw [if_pos h0]
def RgsIn (l:List Rf):Prop:=∀ f,f ∈ l → ∀ x,x ∈ f.code → In64 x.op∧x.args.length ≤ 9223372036854775806
theorem gsize_any (A:Option Addr) (cap:Nat) (l:List Rf) {len:Nat} (w:World) (hlen:len=l.length) (hA:RfAt w A l) (hl:len ≤ 9223372036854775806) (hc:countR l ≤ 9223372036854775806) :
  Calls Tryz.prog 54 #[.slice A len cap] w fun e w'=>e=.returned (.int .i64 (countR l))∧Ext w w':=by
 have HLn:=Lib.hid hlen
 clear hlen
 have HA:=Lib.hid hA
 clear hA
 go_enter Tryz.func54,Tryz.ntmps54
 go_wp2
 go_loopw [3,8] (fun n i wr=>∃ k:Nat,k ≤ len∧i=.int .i64 k∧n=.int .i64 (countR (l.take k))∧Ext w wr) (fun _ i _=>len - (intOf i).toNat)
 case atStart=>exact ⟨0,Nat.zero_le _,rfl,rfl,Ext.refl _⟩
 case round =>
  obtain ⟨k,hk,rfl,rfl,hx⟩:=hrel
  have HX:=Lib.hid hx
  clear hx
  have hcl:=countR_le l k
  by_cases hlt:k < len
  ·obtain ⟨f,hf⟩:∃ f,f=l.getD k default:=⟨_,rfl⟩
   obtain ⟨b,off,rfl,hb,c0,c1,c2,c3,c4,c5,c6,c7,c8,_⟩:=(HA.out.ext HX.out).at_ (k:=k) (by rw [← HLn.out]; exact hlt) hf
   have hs:=countR_snoc l k (by rw [← HLn.out]; exact hlt)
   rw [← hf] at hs
   have hs1:=countR_le l (k + 1)
   have HS:=Lib.hid hs
   have hs2:countR (l.take k) + f.code.length ≤ 9223372036854775806:=by omega
   clear hf hs hs1
   go_wp2_with fail
   go_roundw
   case rel=>exact ⟨k + 1,by omega,by go_num,by rw [HS.out]; go_num,HX.out.trans exA⟩
   case measure=>simp [intOf]; omega
  ·go_wp2_with fail
   go_ret
   exact ⟨ret_int (by rw [List.take_of_length_le (by have:=HLn.out; omega)]),HX.out⟩
theorem gisFunc_len (l:List Rf) (A:Option Addr) (cap:Nat) {len:Nat} (f:Rf) (w:World) (h:len=l.length) (g:Laid w) (hA:RfAt w A l) (hl:len ≤ 9223372036854775807) (hfl:f.code.length ≤ 1000000) (hC:RgAt w f.A f.code) (hin:∀ x,x ∈ f.code → In64 x.op∧x.args.length ≤ 9223372036854775806) :
  Calls Tryz.prog 55 #[.slice A len cap,.agg #[.string f.name,.int .i64 f.params,.int .i64 f.regs,.int .i64 f.ty.base,.int .i64 f.ty.bits,.string f.ty.name,.bool f.ty.opt,.bool f.ty.err,.slice f.A f.code.length f.cap]] w fun e w'=>e=.returned (.bool (fcR l f))∧Ext w w':=by
 subst h
 exact gisFunc_any l A cap f w g hA hl hfl hC (fun x hx=>(hin x hx).1) (fun x hx=>(hin x hx).2)
theorem gValidate_any (A:Option Addr) (cap:Nat) (l:List Rf) (w:World) (g:Laid w) (hA:RfAt w A l) (hl:l.length ≤ 9223372036854775806) (hc:l.length ≤ 48 → countR l ≤ 9223372036854775806) (hin:RgsIn l) :
  Calls Tryz.prog 29 #[.slice A l.length cap] w fun e w'=>e=.returned (.int .i64 (validR l))∧Ext w w':=by
 have HA:=Lib.hid hA
 have HIN:=Lib.hid hin
 clear hA hin
 obtain ⟨len,hlen⟩:∃ len,len=l.length:=⟨_,rfl⟩
 rw [← hlen] at hl hc ⊢
 have HLn:=Lib.hid hlen
 clear hlen
 by_cases h1:48 < (len:Int)
 ·have HV:=Lib.hid (validR_large (l:=l) (.inl (by have:=HLn.out; omega)))
  clear hc
  go_enter Tryz.func29,Tryz.ntmps29
  go_wp2_with fail
  go_ret
  exact ⟨ret_int HV.out.symm,Ext.refl _⟩
 ·have hcc:=hc (by omega)
  clear hc
  by_cases h2:6000 < (countR l:Int)
  ·have HV:=Lib.hid (validR_large (l:=l) (.inr (by omega)))
   go_enter Tryz.func29,Tryz.ntmps29
   go_wp2_with (first | (go_at_call 54; refine (gsize_any A cap l _ HLn.out (HA.out.ext exA) hl hcc).mono ?_; rintro r w1 ⟨rfl,x1⟩))
   go_ret
   exact ⟨ret_int HV.out.symm,exA⟩
  ·have H0:Hid (¬ (48 < l.length ∨ 6000 < countR l)):=by
    rintro (h | h)
    ·have:=HLn.out; omega
    ·omega
   go_enter Tryz.func29,Tryz.ntmps29
   go_wp2_with (first
    | (go_at_call 54; refine (gsize_any A cap l _ HLn.out (HA.out.ext exA) hl hcc).mono ?_; rintro r w2 ⟨rfl,x2⟩))
   have HX0:Hid (Ext w w2):=by unfold Hid; exact exA
   clear x2
   go_loopw [15] (fun i wr=>∃ k:Nat,k ≤ len∧i=.int .i64 k∧okToR l k∧Ext w wr) (fun i _=>len - (intOf i).toNat)
   case atStart=>exact ⟨0,Nat.zero_le _,rfl,fun j hj=>by omega,HX0.out⟩
   case round =>
    obtain ⟨k,hk,rfl,hok,hx⟩:=hrel
    have HK:=Lib.hid hok
    have HX:=Lib.hid hx
    clear hok hx
    by_cases hlt:k < len
    ·obtain ⟨f,hf⟩:∃ f,f=l.getD k default:=⟨_,rfl⟩
     obtain ⟨b,off,rfl,hb,c0,c1,c2,c3,c4,c5,c6,c7,c8,hcd⟩:=(HA.out.ext HX.out).at_ (k:=k) (by rw [← HLn.out]; exact hlt) hf
     obtain ⟨q,hq⟩:∃ q,q=indexR l f.name:=⟨_,rfl⟩
     have HQ:=Lib.hid hq
     have HCD:=Lib.hid hcd
     have hmem:f ∈ l:=by rw [hf]; exact getD_mem (by rw [← HLn.out]; exact hlt)
     have hfl9:f.code.length ≤ 1000000:=by have:=countR_mem hmem; omega
     have HM:=Lib.hid hmem
     have HF:=Lib.hid hf
     clear hf hcd hq hmem
     have HB:Hid (¬ (fcR l f=true∧q=(k:Int)) → validR l=1):=fun h=>validR_bad H0.out (by rw [← HLn.out]; exact hlt) (by rw [← HF.out,← HQ.out]; exact h)
     obtain ⟨bf,hbf⟩:∃ bf,bf=fcR l f:=⟨_,rfl⟩
     have HBF:=Lib.hid hbf
     clear hbf
     go_wp2_with (first
      | (go_at_call 55; refine (gisFunc_len l _ cap f _ HLn.out (g.ext (HX.out.trans exA)) (HA.out.ext (HX.out.trans exA)) (by omega) hfl9 (HCD.out.ext exA) (HIN.out f HM.out)).mono ?_; rw [← HBF.out]; rintro r w4 ⟨rfl,x4⟩; have y4:=x4.facts; have z4:=x4.z0)
      | (go_at_call 56; refine (gindex_len _ cap l _ _ HLn.out (HA.out.ext (HX.out.trans exA)) (by omega)).mono ?_; rw [← HQ.out]; rintro r w5 ⟨rfl,x5⟩))
     case roundEnd =>
      have h9:bf=true:=by assumption
      have h8:(q != (k:Int))=false:=by assumption
      have hqk:q=(k:Int):=by simpa using h8
      have HX5:Hid (Ext w w5):=HX.out.trans exA
      refine ⟨⟨k + 1,by omega,by go_num,?_,HX5.out⟩,by simp [intOf]; omega⟩
      intro j hj
      rcases Nat.lt_or_ge j k with h | h
      ·exact HK.out j h
      ·obtain rfl:j=k:=by omega
       rw [← HF.out,← HQ.out,← HBF.out]
       exact ⟨h9,hqk⟩
     all_goals first
      | (have h9:bf=false:=by assumption
         go_ret
         exact ⟨ret_int (HB.out (by rw [← HBF.out,h9]; simp)).symm,HX.out.trans exA⟩)
      | (have h9:(q != (k:Int))=true:=by assumption
         go_ret
         exact ⟨ret_int (HB.out (by intro hh; rw [hh.2] at h9; simp at h9)).symm,HX.out.trans exA⟩)
    ·go_wp2_with fail
     go_ret
     exact ⟨ret_int (validR_good H0.out (by have h:=HK.out; obtain rfl:k=len:=(by omega); rw [← HLn.out]; exact h)).symm,HX.out⟩
def roomA (n:Int) (qs:List Int):Int:=qs.foldl (fun n a=>max n (a + 1)) n
theorem roomA_ge (qs:List Int):∀ n,n ≤ roomA n qs∧∀ a,a ∈ qs → a + 1 ≤ roomA n qs:=by
 induction qs with
 | nil=>intro n; exact ⟨Int.le_refl _,fun a ha=>by cases ha⟩
 | cons y t ih =>
  intro n
  have h:=ih (max n (y + 1))
  have e:roomA n (y :: t)=roomA (max n (y + 1)) t:=rfl
  rw [e]
  refine ⟨by have:=h.1; omega,fun a ha=>?_⟩
  rcases List.mem_cons.1 ha with rfl | ha
  ·have:=h.1; omega
  ·exact h.2 a ha
theorem roomA_le (qs:List Int):∀ {n b:Int},n ≤ b → (∀ a,a ∈ qs → a + 1 ≤ b) → roomA n qs ≤ b:=by
 induction qs with
 | nil=>intro n b h _; exact h
 | cons y t ih =>
  intro n b h h2
  have e:roomA n (y :: t)=roomA (max n (y + 1)) t:=rfl
  rw [e]
  exact ih (by have:=h2 y (List.mem_cons_self ..); omega) (fun a ha=>h2 a (List.mem_cons_of_mem _ ha))
def roomB (n:Int) (x:Rg):Int:=if x.op=3 ∨ x.op=4 then max n (x.a + 1) else n
def roomX (n:Int) (x:Rg):Int:=roomA (roomB n x) x.args
def roomL (n:Int) (c:List Rg):Int:=c.foldl roomX n
def roomR (f:Rf):Int:=roomL f.params f.code
theorem roomB_ge (n:Int) (x:Rg):n ≤ roomB n x∧((x.op=3 ∨ x.op=4) → x.a + 1 ≤ roomB n x):=by
 unfold roomB
 split
 ·exact ⟨by omega,fun _=>by omega⟩
 ·rename_i h; exact ⟨by omega,fun h2=>absurd h2 h⟩
theorem roomL_ge (c:List Rg):∀ n,n ≤ roomL n c∧∀ x,x ∈ c → ((x.op=3 ∨ x.op=4) → x.a + 1 ≤ roomL n c)∧∀ a,a ∈ x.args → a + 1 ≤ roomL n c:=by
 induction c with
 | nil=>intro n; exact ⟨Int.le_refl _,fun a ha=>by cases ha⟩
 | cons y t ih =>
  intro n
  have h:=ih (roomX n y)
  have e:roomL n (y :: t)=roomL (roomX n y) t:=rfl
  rw [e]
  have h1:=roomA_ge y.args (roomB n y)
  have h2:=roomB_ge n y
  have e2:roomX n y=roomA (roomB n y) y.args:=rfl
  refine ⟨by have:=h.1; have:=h1.1; have:=h2.1; omega,fun x hx=>?_⟩
  rcases List.mem_cons.1 hx with rfl | hx
  ·refine ⟨fun h3=>?_,fun a ha=>?_⟩
   ·have:=h2.2 h3; have:=h1.1; have:=h.1; omega
   ·have:=h1.2 a ha; have:=h.1; omega
  ·exact h.2 x hx
theorem roomL_le (c:List Rg):∀ {n b:Int},n ≤ b → (∀ x,x ∈ c → ((x.op=3 ∨ x.op=4) → x.a + 1 ≤ b)∧∀ a,a ∈ x.args → a + 1 ≤ b) → roomL n c ≤ b:=by
 induction c with
 | nil=>intro n b h _; exact h
 | cons y t ih =>
  intro n b h h2
  have e:roomL n (y :: t)=roomL (roomX n y) t:=rfl
  rw [e]
  refine ih ?_ (fun x hx=>h2 x (List.mem_cons_of_mem _ hx))
  have h3:=h2 y (List.mem_cons_self ..)
  refine roomA_le _ ?_ h3.2
  unfold roomB
  split
  ·rename_i h4; have:=h3.1 h4; omega
  ·exact h
structure GoodF (l:List Rf) (f:Rf):Prop where
 par:0 ≤ f.params∧f.params ≤ 4
 reg:1 ≤ f.regs∧f.regs ≤ 6
 pos:1 ≤ f.code.length
 few:f.code.length ≤ 6000
 inst:∀ x,x ∈ f.code → instR (callB l x.name x.args.length) f.regs f.code.length x=true
 last:goesR (f.code.getD (f.code.length - 1) default).op=false
theorem inB_iff {n lo hi:Int}:inB n lo hi=true ↔ lo ≤ n∧n ≤ hi:=by
 unfold inB
 simp
theorem validR_parts {l:List Rf} (h:validR l=0):l.length ≤ 48∧countR l ≤ 6000∧∀ k,k < l.length → GoodF l (l.getD k default)∧indexR l (l.getD k default).name=k:=by
 unfold validR at h
 split at h
 ·cases h
 ·rename_i h0
  split at h
  ·rename_i h1
   refine ⟨by omega,by omega,fun k hk=>?_⟩
   obtain ⟨h2,h3⟩:=h1 k hk
   refine ⟨?_,h3⟩
   have hm:=countR_mem (getD_mem (l:=l) hk)
   unfold fcR at h2
   simp only [Bool.and_eq_true,decide_eq_true_eq,List.all_eq_true,inB_iff,Bool.not_eq_true'] at h2
   obtain ⟨_,a1,a2,_,a3,a4,a5⟩:=h2
   exact ⟨a1,a2,a3,by omega,a4,a5⟩
  ·cases h
theorem GoodF.next {l:List Rf} {f:Rf} (g:GoodF l f) {p:Nat} (hp:p < f.code.length) (h:goesR (f.code.getD p default).op=true):p + 1 < f.code.length:=by
 rcases Nat.lt_or_ge (p + 1) f.code.length with h1 | h1
 ·exact h1
 ·have e:p=f.code.length - 1:=by omega
  rw [e,g.last] at h
  cases h
structure GoodX (l:List Rf) (f:Rf) (x:Rg):Prop where
 op:(0 ≤ x.op∧x.op ≤ 17) ∨ (105 ≤ x.op∧x.op ≤ 123)
 d:isPartB (partsR x.op).1 x.d f.regs f.code.length=true
 a:isPartB (partsR x.op).2.1 x.a f.regs f.code.length=true
 b:isPartB (partsR x.op).2.2 x.b f.regs f.code.length=true
 args:∀ i,i ∈ x.args → 0 ≤ i∧i < 300
 rest:restR (callB l x.name x.args.length) x=true
theorem GoodF.at_ {l:List Rf} {f:Rf} (g:GoodF l f) {x:Rg} (hx:x ∈ f.code):GoodX l f x:=by
 have h:=g.inst x hx
 unfold instR at h
 simp only [Bool.and_eq_true] at h
 obtain ⟨h1,h2,h3,h4,h5,h6⟩:=h
 refine ⟨?_,h2,h3,h4,?_,h6⟩
 ·unfold isOpB at h1
  simp only [Bool.or_eq_true,inB_iff] at h1
  omega
 ·intro i hi
  unfold argsB at h5
  rw [List.all_eq_true] at h5
  have:=h5 i hi
  simp only [Bool.and_eq_true,inB_iff] at this
  omega
theorem callB_iff {l:List Rf} {nm:ByteArray} {n:Int} (h:callB l nm n=true):∃ j:Nat,indexR l nm=j∧j < l.length∧(l.getD j default).params=n:=by
 unfold callB at h
 simp only [Bool.and_eq_true,decide_eq_true_eq,beq_iff_eq] at h
 unfold indexR at h ⊢
 rcases findI_cases (fun k=>(l.getD k default).name.toList == nm.toList) l.length with ⟨h1,_⟩ | ⟨j,h1,hj,_⟩
 ·rw [h1] at h
  exact absurd h.1 (by decide)
 ·rw [h1] at h ⊢
  refine ⟨j,rfl,hj,?_⟩
  have:=h.2
  rwa [Int.toNat_natCast] at this
def rowT (t:Ty):Prop:=t.base=0 ∨ t.base=1 ∨ (2 ≤ t.base∧1 ≤ t.bits∧t.bits ≤ 31)
theorem isIntS_bits {t:Ty} (h:isIntS t=true):2 ≤ t.base∧1 ≤ t.bits∧t.bits ≤ 31:=by
 unfold isIntS isPlainS at h
 simp only [Bool.and_eq_true,Bool.or_eq_true,beq_iff_eq] at h
 obtain ⟨⟨⟨h1,_⟩,_⟩,h2⟩:=h
 unfold isTypeS bitsOk at h1
 rw [if_pos h2] at h1
 simp only [Bool.and_eq_true,decide_eq_true_eq] at h1
 exact ⟨by omega,h1.1⟩
theorem rowT_int {t:Ty} (h:isIntS t=true):rowT t:=.inr (.inr (isIntS_bits h))
theorem pushS_row {t:Ty} (h:pushS t=true):rowT t:=by
 unfold pushS at h
 simp only [Bool.or_eq_true] at h
 rcases h with h | h
 ·exact rowT_int h
 ·unfold isPlainS at h
  simp only [Bool.and_eq_true,decide_eq_true_eq] at h
  obtain ⟨⟨⟨h1,_⟩,_⟩,h2⟩:=h
  unfold isTypeS at h1
  by_cases e:t.base=0
  ·exact .inl e
  ·rw [if_neg (by omega),if_neg (by omega),if_neg e,if_neg (by omega)] at h1
   simp only [Bool.and_eq_true,beq_iff_eq] at h1
   exact .inr (.inl h1.1.1)
theorem GoodX.typed {l:List Rf} {f:Rf} {x:Rg} (g:GoodX l f x) (h:x.op=5 ∨ x.op=7 ∨ x.op=8 ∨ (105 ≤ x.op∧x.op ≤ 117)):2 ≤ x.ty.base∧1 ≤ x.ty.bits∧x.ty.bits ≤ 31:=by
 have hr:=g.rest
 unfold restR at hr
 rw [if_neg (by omega),if_neg (by omega),if_neg (by omega),if_neg (by omega)] at hr
 have hi:isIntS x.ty=true:=by
  by_cases h5:x.op=5 ∨ x.op=7 ∨ x.op=8
  ·rw [if_pos h5,Bool.and_eq_true] at hr
   exact hr.2
  ·rw [if_neg h5,if_pos (by omega),Bool.and_eq_true] at hr
   exact hr.2
 exact isIntS_bits hi
theorem GoodX.row {l:List Rf} {f:Rf} {x:Rg} (g:GoodX l f x) (h:x.op=0):rowT x.ty:=by
 have hr:=g.rest
 unfold restR at hr
 rw [if_pos h,Bool.and_eq_true,Bool.and_eq_true] at hr
 exact pushS_row hr.2.2
theorem GoodX.call {l:List Rf} {f:Rf} {x:Rg} (g:GoodX l f x) (h:x.op=14):∃ j:Nat,indexR l x.name=j∧j < l.length∧(l.getD j default).params=x.args.length:=by
 have hr:=g.rest
 unfold restR at hr
 rw [if_neg (by omega),if_neg (by omega),if_pos h,Bool.and_eq_true] at hr
 exact callB_iff hr.1
theorem GoodX.stop {l:List Rf} {f:Rf} {x:Rg} (g:GoodX l f x) (h:x.op=17):1 ≤ x.a∧x.a ≤ 5:=by
 have hr:=g.rest
 unfold restR at hr
 rw [if_neg (by omega),if_pos h,Bool.and_eq_true,Bool.and_eq_true,inB_iff] at hr
 exact hr.2.1
theorem isPartB_reg {n regs code:Int} (h:isPartB 1 n regs code=true):0 ≤ n∧n < regs:=by
 unfold isPartB at h
 rw [if_neg (by omega),if_pos rfl,inB_iff] at h
 omega
theorem isPartB_slot {n regs code:Int} (h:isPartB 2 n regs code=true):0 ≤ n∧n < 300:=by
 unfold isPartB at h
 rw [if_neg (by omega),if_neg (by omega),if_pos rfl,inB_iff] at h
 omega
theorem GoodF.room {l:List Rf} {f:Rf} (g:GoodF l f):f.params ≤ roomR f∧roomR f ≤ 300:=by
 refine ⟨(roomL_ge f.code f.params).1,roomL_le _ (by have:=g.par; omega) fun x hx=>?_⟩
 have gx:=g.at_ hx
 refine ⟨fun h=>?_,fun a ha=>by have:=gx.args a ha; omega⟩
 have ha:=gx.a
 rw [show (partsR x.op).2.1=2 by rcases h with h | h <;> rw [h] <;> rfl] at ha
 have:=isPartB_slot ha
 omega
def isNumB (op:Int):Prop:=(5 ≤ op∧op ≤ 9) ∨ (105 ≤ op∧op ≤ 123)
theorem stepF_num {ck:Bool} {x:Rg} {p:Nat} {R S:Nat → Val} (h:isNumB x.op):stepF ck x p R S=bif (numF ck x (R x.a.toNat) (R x.b.toNat)).2 != 0 then .done (.stop (numF ck x (R x.a.toNat) (R x.b.toNat)).2) else .go (p + 1) (upd R x.d.toNat (nv (numF ck x (R x.a.toNat) (R x.b.toNat)).1)) S:=by
 unfold isNumB at h
 unfold stepF
 rw [if_neg (by omega),if_neg (by omega),if_neg (by omega),if_neg (by omega),if_neg (by omega),if_neg (by omega),if_neg (by omega),if_neg (by omega),if_neg (by omega),if_neg (by omega),if_neg (by omega),if_neg (by omega),if_neg (by omega)]
end Go.Proofs.YtcoookehfhhhdaaGreatDoor.c
