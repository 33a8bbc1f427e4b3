/- Contract of the statement's alike: two codes whose runs end alike. Conditions: lengths. What right code has of sizes. No condition. -/
import Derived.Test.YtknaemlnhediaaaGreatDoorKcall
import Derived.Test.YtknaemlnhediaaaGreatDoorHrun
import Derived.Test.YtknaemlnhediaaaGreatDoorSame
namespace Go.Proofs.YtknaemlnhediaaaGreatDoor.c
open Go.RowKit
set_option linter.unusedVariables false
set_option maxRecDepth 100000
set_option maxHeartbeats 6400000
set_option linter.unusedSimpArgs false
theorem alike_err (A B:Option Addr) (ca cb:Nat) {ln mn:Nat} (nm:ByteArray) (vA:Option Addr) (vc na:Nat) (ck:Bool) (w:World) {er:Int} (hb:(er != 0)=true) (k y:Int) (u:Val) (k2 y2:Int) (u2:Val) (HL:Hid (∀ w1,Ext w w1 → Calls Tryz.prog 21 #[.slice A ln ca,.string nm,.slice vA na vc,.bool ck] w1 fun e w'=>e=.returned (.tuple #[.agg #[.int .i64 k,.int .i64 u.ty.base,.int .i64 u.ty.bits,.string u.ty.name,.bool u.ty.opt,.bool u.ty.err,.int .i64 u.n,.bool u.null,.string u.err,.int .i64 u.of.base,.int .i64 u.of.bits,.string u.of.name,.bool u.of.opt,.bool u.of.err,.int .i64 y,.slice none 0 0],.int .i64 er])∧Ext w1 w')) (HM:Hid (∀ w1,Ext w w1 → Calls Tryz.prog 21 #[.slice B mn cb,.string nm,.slice vA na vc,.bool ck] w1 fun e w'=>e=.returned (.tuple #[.agg #[.int .i64 k2,.int .i64 u2.ty.base,.int .i64 u2.ty.bits,.string u2.ty.name,.bool u2.ty.opt,.bool u2.ty.err,.int .i64 u2.n,.bool u2.null,.string u2.err,.int .i64 u2.of.base,.int .i64 u2.of.bits,.string u2.of.name,.bool u2.of.opt,.bool u2.of.err,.int .i64 y2,.slice none 0 0],.int .i64 er])∧Ext w1 w')) :
  Calls Tryz.prog 47 #[.slice A ln ca,.slice B mn cb,.agg #[.string nm,.slice vA na vc,.bool ck]] w fun e w'=>e=.returned (.bool true)∧Ext w w':=by
 go_enter Tryz.func47,Tryz.ntmps47
 go_wp2_with (first
  | (go_at_call 21; first
    | (with_reducible refine (HL.out _ exA).mono ?_; rintro r w1 ⟨rfl,x1⟩; have y1:=x1.facts; have z1:w.heap.size < w1.heap.size:=(by have h:=x1.size; simp at h; omega))
    | (with_reducible refine (HM.out _ exA).mono ?_; rintro r w2 ⟨rfl,x2⟩; have y2:=x2.facts; have z2:w1.heap.size < w2.heap.size:=(by have h:=x2.size; simp at h; omega); have z2b:w.heap.size < w2.heap.size:=(by omega))))
 go_ret
 exact ⟨rfl,exA⟩
theorem alike_long (A B:Option Addr) (ca cb:Nat) {ln mn:Nat} (nm:ByteArray) (vA:Option Addr) (vc na:Nat) (ck:Bool) (w:World) (k y:Int) (hk:(k == 2)=true) (u:Val) (k2 y2:Int) (u2:Val) (HL:Hid (∀ w1,Ext w w1 → Calls Tryz.prog 21 #[.slice A ln ca,.string nm,.slice vA na vc,.bool ck] w1 fun e w'=>e=.returned (.tuple #[.agg #[.int .i64 k,.int .i64 u.ty.base,.int .i64 u.ty.bits,.string u.ty.name,.bool u.ty.opt,.bool u.ty.err,.int .i64 u.n,.bool u.null,.string u.err,.int .i64 u.of.base,.int .i64 u.of.bits,.string u.of.name,.bool u.of.opt,.bool u.of.err,.int .i64 y,.slice none 0 0],.int .i64 0])∧Ext w1 w')) (HM:Hid (∀ w1,Ext w w1 → Calls Tryz.prog 21 #[.slice B mn cb,.string nm,.slice vA na vc,.bool ck] w1 fun e w'=>e=.returned (.tuple #[.agg #[.int .i64 k2,.int .i64 u2.ty.base,.int .i64 u2.ty.bits,.string u2.ty.name,.bool u2.ty.opt,.bool u2.ty.err,.int .i64 u2.n,.bool u2.null,.string u2.err,.int .i64 u2.of.base,.int .i64 u2.of.bits,.string u2.of.name,.bool u2.of.opt,.bool u2.of.err,.int .i64 y2,.slice none 0 0],.int .i64 0])∧Ext w1 w')) :
  Calls Tryz.prog 47 #[.slice A ln ca,.slice B mn cb,.agg #[.string nm,.slice vA na vc,.bool ck]] w fun e w'=>e=.returned (.bool true)∧Ext w w':=by
 go_enter Tryz.func47,Tryz.ntmps47
 go_wp2_with (first
  | (go_at_call 21; first
    | (with_reducible refine (HL.out _ exA).mono ?_; rintro r w1 ⟨rfl,x1⟩; have y1:=x1.facts; have z1:w.heap.size < w1.heap.size:=(by have h:=x1.size; simp at h; omega))
    | (with_reducible refine (HM.out _ exA).mono ?_; rintro r w2 ⟨rfl,x2⟩; have y2:=x2.facts; have z2:w1.heap.size < w2.heap.size:=(by have h:=x2.size; simp at h; omega); have z2b:w.heap.size < w2.heap.size:=(by omega))))
 go_ret
 exact ⟨rfl,exA⟩
theorem alike_same (A B:Option Addr) (ca cb:Nat) {ln mn:Nat} (nm:ByteArray) (vA:Option Addr) (vc na:Nat) (ck:Bool) (w:World) (k y:Int) (hk:(k == 2)=false) (u:Val) (HL:Hid (∀ w1,Ext w w1 → Calls Tryz.prog 21 #[.slice A ln ca,.string nm,.slice vA na vc,.bool ck] w1 fun e w'=>e=.returned (.tuple #[.agg #[.int .i64 k,.int .i64 u.ty.base,.int .i64 u.ty.bits,.string u.ty.name,.bool u.ty.opt,.bool u.ty.err,.int .i64 u.n,.bool u.null,.string u.err,.int .i64 u.of.base,.int .i64 u.of.bits,.string u.of.name,.bool u.of.opt,.bool u.of.err,.int .i64 y,.slice none 0 0],.int .i64 0])∧Ext w1 w')) (HM:Hid (∀ w1,Ext w w1 → Calls Tryz.prog 21 #[.slice B mn cb,.string nm,.slice vA na vc,.bool ck] w1 fun e w'=>e=.returned (.tuple #[.agg #[.int .i64 k,.int .i64 u.ty.base,.int .i64 u.ty.bits,.string u.ty.name,.bool u.ty.opt,.bool u.ty.err,.int .i64 u.n,.bool u.null,.string u.err,.int .i64 u.of.base,.int .i64 u.of.bits,.string u.of.name,.bool u.of.opt,.bool u.of.err,.int .i64 y,.slice none 0 0],.int .i64 0])∧Ext w1 w')) :
  Calls Tryz.prog 47 #[.slice A ln ca,.slice B mn cb,.agg #[.string nm,.slice vA na vc,.bool ck]] w fun e w'=>e=.returned (.bool true)∧Ext w w':=by
 go_enter Tryz.func47,Tryz.ntmps47
 go_wp2_with (first
  | (go_at_call 21; first
    | (with_reducible refine (HL.out _ exA).mono ?_; rintro r w1 ⟨rfl,x1⟩; have y1:=x1.facts; have z1:w.heap.size < w1.heap.size:=(by have h:=x1.size; simp at h; omega))
    | (with_reducible refine (HM.out _ exA).mono ?_; rintro r w2 ⟨rfl,x2⟩; have y2:=x2.facts; have z2:w1.heap.size < w2.heap.size:=(by have h:=x2.size; simp at h; omega); have z2b:w.heap.size < w2.heap.size:=(by omega)))
  | (go_at_call 26; refine (same_any _ _ _ _).mono ?_; rintro r w7 ⟨rfl,x7⟩))
 go_ret
 exact ⟨rfl,exA⟩
theorem alike_any (A B:Option Addr) (ca cb:Nat) (l m:List Rf) {ln mn:Nat} (nm:ByteArray) (vA:Option Addr) (vc:Nat) (av:List Val) {na:Nat} (ck:Bool) (w:World) (hln:ln=l.length) (hmn:mn=m.length) (hna:na=av.length) (hA:RfAt w A l) (hB:RfAt w B m) (hV:ValsAt w vA av) (hl:ln ≤ 9223372036854775806) (hm:mn ≤ 9223372036854775806) (hna2:na ≤ 1000)
  (hcl:ln ≤ 48 → countR l ≤ 9223372036854775806) (hcm:mn ≤ 48 → countR m ≤ 9223372036854775806) (hil:RgsIn l) (him:RgsIn m) (he:runE m nm av=runE l nm av) (hs:(outR l nm av ck).1 ≠ .long → (outR m nm av ck).1=(outR l nm av ck).1) :
  Calls Tryz.prog 47 #[.slice A ln ca,.slice B mn cb,.agg #[.string nm,.slice vA na vc,.bool ck]] w fun e w'=>e=.returned (.bool true)∧Ext w w':=by
 have HL:Hid (∀ w1,Ext w w1 → Calls Tryz.prog 21 #[.slice A ln ca,.string nm,.slice vA na vc,.bool ck] w1 fun e w'=>e=.returned (.tuple #[.agg (outC (outR l nm av ck).1),.int .i64 (runE l nm av)])∧Ext w1 w'):=fun w1 x=>hRun_any A ca l nm vA vc av ck w1 hln hna (hA.ext x) (hV.ext x) hl hna2 hcl hil
 have HM:Hid (∀ w1,Ext w w1 → Calls Tryz.prog 21 #[.slice B mn cb,.string nm,.slice vA na vc,.bool ck] w1 fun e w'=>e=.returned (.tuple #[.agg (outC (outR m nm av ck).1),.int .i64 (runE l nm av)])∧Ext w1 w'):=fun w1 x=>by
  have h:=hRun_any B cb m nm vA vc av ck w1 hmn hna (hB.ext x) (hV.ext x) hm hna2 hcm him
  rwa [he] at h
 obtain ⟨e,hee⟩:∃ e,e=runE l nm av:=⟨_,rfl⟩
 rw [← hee] at HL HM
 obtain ⟨ea,hea⟩:∃ e,e=(outR l nm av ck).1:=⟨_,rfl⟩
 obtain ⟨eb,heb⟩:∃ e,e=(outR m nm av ck).1:=⟨_,rfl⟩
 rw [← hea,← heb] at hs
 rw [← hea] at HL
 rw [← heb] at HM
 clear hee hea heb he hA hB hV hcl hcm hil him hln hmn hna
 have hcases:ea=.long ∨ (eb=ea∧ea ≠ .long):=by
  by_cases h:ea=.long
  ·exact .inl h
  ·exact .inr ⟨hs h,h⟩
 clear hs
 rcases hcases with rfl | ⟨rfl,hne⟩
 ·obtain ⟨k,y,u,_,h2⟩:=enC_split eb
  rw [h2] at HM
  by_cases h0:e=0
  ·subst h0
   exact alike_long A B ca cb nm vA vc na ck w 2 0 rfl default k y u HL HM
  ·exact alike_err A B ca cb nm vA vc na ck w (by simpa using h0) 2 0 default k y u HL HM
 ·obtain ⟨k,y,u,h2,hk⟩:∃ (k y:Int) (u:Val),outC eb=#[.int .i64 k,.int .i64 u.ty.base,.int .i64 u.ty.bits,.string u.ty.name,.bool u.ty.opt,.bool u.ty.err,.int .i64 u.n,.bool u.null,.string u.err,.int .i64 u.of.base,.int .i64 u.of.bits,.string u.of.name,.bool u.of.opt,.bool u.of.err,.int .i64 y,.slice none 0 0]∧(k == 2)=false:=by
   cases eb with
   | ret v=>exact ⟨0,0,v,rfl,rfl⟩
   | stop y=>exact ⟨1,y,default,rfl,rfl⟩
   | long=>exact absurd rfl hne
  rw [h2] at HL HM
  by_cases h0:e=0
  ·subst h0
   exact alike_same A B ca cb nm vA vc na ck w k y hk u HL HM
  ·exact alike_err A B ca cb nm vA vc na ck w (by simpa using h0) k y u k y u HL HM
theorem getD_ltA {L:List Rf} {j:Nat} (h:j < L.length):L[j]=L.getD j default:=by
 rw [List.getD,List.getElem?_eq_getElem h]
 rfl
theorem GoodF.fewA {l:List Rf} {f:Rf} (g:GoodF l f) (hp:∀ j,j < l.length → (l.getD j default).params ≤ 4) {x:Rg} (hx:x ∈ f.code):x.args.length ≤ 4:=by
 rcases Classical.em (x.op=14) with h | h
 ·obtain ⟨q,_,hq,he⟩:=(g.at_ hx).call h
  have:=hp q hq
  omega
 ·have h1:=g.inst x hx
  unfold instR at h1
  simp only [Bool.and_eq_true] at h1
  have h2:=h1.2.2.2.2.1
  rw [argsB_other h] at h2
  rw [List.isEmpty_iff.1 h2]
  decide
theorem valid_in {l:List Rf} (h:validR l=0):RgsIn l∧(∀ f,f ∈ l → SizesF f)∧l.length ≤ 48∧countR l ≤ 6000:=by
 obtain ⟨h1,h2,h3⟩:=validR_parts h
 have hp:∀ i,i < l.length → (l.getD i default).params ≤ 4:=fun i hi=>(h3 i hi).1.par.2
 have key:∀ f,f ∈ l → GoodF l f:=fun f hf=>by
  obtain ⟨i,hi,rfl⟩:=List.getElem_of_mem hf
  have:=(h3 i hi).1
  rwa [← getD_ltA hi] at this
 refine ⟨fun f hf x hx=>?_,fun f hf=>⟨by have:=(key f hf).few; omega,fun x hx=>by have:=(key f hf).fewA hp hx; omega⟩,h1,h2⟩
 have:=(key f hf).fewA hp hx
 have ho:=((key f hf).at_ hx).op
 exact ⟨by unfold In64; omega,by omega⟩
end Go.Proofs.YtknaemlnhediaaaGreatDoor.c
