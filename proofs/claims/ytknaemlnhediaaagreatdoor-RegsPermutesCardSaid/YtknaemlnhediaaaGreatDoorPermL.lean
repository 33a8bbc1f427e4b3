/- Contract of the law's alike. The table strings.asciiSpace holds what its text lays; lengths are bounded. The law RegsPermutes. The table strings.asciiSpace holds what its text lays; lengths are bounded. -/
import Derived.Test.YtknaemlnhediaaaGreatDoorHperm
import Derived.Test.YtknaemlnhediaaaGreatDoorSameH
import Derived.Test.YtknaemlnhediaaaGreatDoorKcall
import Derived.Test.YtknaemlnhediaaaGreatDoorHrun
namespace Go.Proofs.YtknaemlnhediaaaGreatDoor.c
open Go.RowKit
set_option linter.unusedVariables false
set_option maxRecDepth 100000
set_option maxHeartbeats 6400000
set_option linter.unusedSimpArgs false
theorem alike_err (A B : Option Addr) (ca cb : Nat) {ln mn : Nat} (nm : ByteArray) (vA : Option Addr) (vc na : Nat) (ck : Bool) (w : World) {er : Int} (hb : (er != 0) = true) (k y : Int) (u : Val) (k2 y2 : Int) (u2 : Val) (HL : Hid (∀ w1, Ext w w1 → Calls Tryz.prog 21 #[.slice A ln ca, .string nm, .slice vA na vc, .bool ck] w1 fun e w' => e = .returned (.tuple #[.agg #[.int .i64 k, .int .i64 u.ty.base, .int .i64 u.ty.bits, .string u.ty.name, .bool u.ty.opt, .bool u.ty.err, .int .i64 u.n, .bool u.null, .string u.err, .int .i64 u.of.base, .int .i64 u.of.bits, .string u.of.name, .bool u.of.opt, .bool u.of.err, .int .i64 y, .slice none 0 0], .int .i64 er]) ∧ Ext w1 w')) (HM : Hid (∀ w1, Ext w w1 → Calls Tryz.prog 21 #[.slice B mn cb, .string nm, .slice vA na vc, .bool ck] w1 fun e w' => e = .returned (.tuple #[.agg #[.int .i64 k2, .int .i64 u2.ty.base, .int .i64 u2.ty.bits, .string u2.ty.name, .bool u2.ty.opt, .bool u2.ty.err, .int .i64 u2.n, .bool u2.null, .string u2.err, .int .i64 u2.of.base, .int .i64 u2.of.bits, .string u2.of.name, .bool u2.of.opt, .bool u2.of.err, .int .i64 y2, .slice none 0 0], .int .i64 er]) ∧ Ext w1 w')) :
  Calls Tryz.prog 47 #[.slice A ln ca, .slice B mn cb, .agg #[.string nm, .slice vA na vc, .bool ck]] w fun e w' => e = .returned (.bool true) ∧ Ext w w' := by
 go_enter Tryz.func47, Tryz.ntmps47
 go_wp2_with (first
  | (go_at_call 21; first
    | (with_reducible refine (HL.out _ exA).mono ?_; rintro r w1 ⟨rfl, x1⟩; have y1 := x1.facts; have z1 : w.heap.size < w1.heap.size := (by have h := x1.size; simp at h; omega))
    | (with_reducible refine (HM.out _ exA).mono ?_; rintro r w2 ⟨rfl, x2⟩; have y2 := x2.facts; have z2 : w1.heap.size < w2.heap.size := (by have h := x2.size; simp at h; omega); have z2b : w.heap.size < w2.heap.size := (by omega))))
 go_ret
 exact ⟨rfl, exA⟩
theorem alike_long (A B : Option Addr) (ca cb : Nat) {ln mn : Nat} (nm : ByteArray) (vA : Option Addr) (vc na : Nat) (ck : Bool) (w : World) (k y : Int) (hk : (k == 2) = true) (u : Val) (k2 y2 : Int) (u2 : Val) (HL : Hid (∀ w1, Ext w w1 → Calls Tryz.prog 21 #[.slice A ln ca, .string nm, .slice vA na vc, .bool ck] w1 fun e w' => e = .returned (.tuple #[.agg #[.int .i64 k, .int .i64 u.ty.base, .int .i64 u.ty.bits, .string u.ty.name, .bool u.ty.opt, .bool u.ty.err, .int .i64 u.n, .bool u.null, .string u.err, .int .i64 u.of.base, .int .i64 u.of.bits, .string u.of.name, .bool u.of.opt, .bool u.of.err, .int .i64 y, .slice none 0 0], .int .i64 0]) ∧ Ext w1 w')) (HM : Hid (∀ w1, Ext w w1 → Calls Tryz.prog 21 #[.slice B mn cb, .string nm, .slice vA na vc, .bool ck] w1 fun e w' => e = .returned (.tuple #[.agg #[.int .i64 k2, .int .i64 u2.ty.base, .int .i64 u2.ty.bits, .string u2.ty.name, .bool u2.ty.opt, .bool u2.ty.err, .int .i64 u2.n, .bool u2.null, .string u2.err, .int .i64 u2.of.base, .int .i64 u2.of.bits, .string u2.of.name, .bool u2.of.opt, .bool u2.of.err, .int .i64 y2, .slice none 0 0], .int .i64 0]) ∧ Ext w1 w')) :
  Calls Tryz.prog 47 #[.slice A ln ca, .slice B mn cb, .agg #[.string nm, .slice vA na vc, .bool ck]] w fun e w' => e = .returned (.bool true) ∧ Ext w w' := by
 go_enter Tryz.func47, Tryz.ntmps47
 go_wp2_with (first
  | (go_at_call 21; first
    | (with_reducible refine (HL.out _ exA).mono ?_; rintro r w1 ⟨rfl, x1⟩; have y1 := x1.facts; have z1 : w.heap.size < w1.heap.size := (by have h := x1.size; simp at h; omega))
    | (with_reducible refine (HM.out _ exA).mono ?_; rintro r w2 ⟨rfl, x2⟩; have y2 := x2.facts; have z2 : w1.heap.size < w2.heap.size := (by have h := x2.size; simp at h; omega); have z2b : w.heap.size < w2.heap.size := (by omega))))
 go_ret
 exact ⟨rfl, exA⟩
theorem alike_same (A B : Option Addr) (ca cb : Nat) {ln mn : Nat} (nm : ByteArray) (vA : Option Addr) (vc na : Nat) (ck : Bool) (w : World) (k y : Int) (hk : (k == 2) = false) (u : Val) (HL : Hid (∀ w1, Ext w w1 → Calls Tryz.prog 21 #[.slice A ln ca, .string nm, .slice vA na vc, .bool ck] w1 fun e w' => e = .returned (.tuple #[.agg #[.int .i64 k, .int .i64 u.ty.base, .int .i64 u.ty.bits, .string u.ty.name, .bool u.ty.opt, .bool u.ty.err, .int .i64 u.n, .bool u.null, .string u.err, .int .i64 u.of.base, .int .i64 u.of.bits, .string u.of.name, .bool u.of.opt, .bool u.of.err, .int .i64 y, .slice none 0 0], .int .i64 0]) ∧ Ext w1 w')) (HM : Hid (∀ w1, Ext w w1 → Calls Tryz.prog 21 #[.slice B mn cb, .string nm, .slice vA na vc, .bool ck] w1 fun e w' => e = .returned (.tuple #[.agg #[.int .i64 k, .int .i64 u.ty.base, .int .i64 u.ty.bits, .string u.ty.name, .bool u.ty.opt, .bool u.ty.err, .int .i64 u.n, .bool u.null, .string u.err, .int .i64 u.of.base, .int .i64 u.of.bits, .string u.of.name, .bool u.of.opt, .bool u.of.err, .int .i64 y, .slice none 0 0], .int .i64 0]) ∧ Ext w1 w')) :
  Calls Tryz.prog 47 #[.slice A ln ca, .slice B mn cb, .agg #[.string nm, .slice vA na vc, .bool ck]] w fun e w' => e = .returned (.bool true) ∧ Ext w w' := by
 go_enter Tryz.func47, Tryz.ntmps47
 go_wp2_with (first
  | (go_at_call 21; first
    | (with_reducible refine (HL.out _ exA).mono ?_; rintro r w1 ⟨rfl, x1⟩; have y1 := x1.facts; have z1 : w.heap.size < w1.heap.size := (by have h := x1.size; simp at h; omega))
    | (with_reducible refine (HM.out _ exA).mono ?_; rintro r w2 ⟨rfl, x2⟩; have y2 := x2.facts; have z2 : w1.heap.size < w2.heap.size := (by have h := x2.size; simp at h; omega); have z2b : w.heap.size < w2.heap.size := (by omega)))
  | (go_at_call 26; refine (same_any _ _ _ _).mono ?_; rintro r w7 ⟨rfl, x7⟩))
 go_ret
 exact ⟨rfl, exA⟩
theorem alike_any (A B : Option Addr) (ca cb : Nat) (l m : List Rf) {ln mn : Nat} (nm : ByteArray) (vA : Option Addr) (vc : Nat) (av : List Val) {na : Nat} (ck : Bool) (w : World) (hln : ln = l.length) (hmn : mn = m.length) (hna : na = av.length) (hA : RfAt w A l) (hB : RfAt w B m) (hV : ValsAt w vA av) (hl : ln ≤ 9223372036854775806) (hm : mn ≤ 9223372036854775806) (hna2 : na ≤ 1000)
  (hcl : ln ≤ 48 → countR l ≤ 9223372036854775806) (hcm : mn ≤ 48 → countR m ≤ 9223372036854775806) (hil : RgsIn l) (him : RgsIn m) (he : runE m nm av = runE l nm av) (hs : (outR l nm av ck).1 ≠ .long → (outR m nm av ck).1 = (outR l nm av ck).1) :
  Calls Tryz.prog 47 #[.slice A ln ca, .slice B mn cb, .agg #[.string nm, .slice vA na vc, .bool ck]] w fun e w' => e = .returned (.bool true) ∧ Ext w w' := by
 have HL : Hid (∀ w1, Ext w w1 → Calls Tryz.prog 21 #[.slice A ln ca, .string nm, .slice vA na vc, .bool ck] w1 fun e w' => e = .returned (.tuple #[.agg (outC (outR l nm av ck).1), .int .i64 (runE l nm av)]) ∧ Ext w1 w') := fun w1 x => hRun_any A ca l nm vA vc av ck w1 hln hna (hA.ext x) (hV.ext x) hl hna2 hcl hil
 have HM : Hid (∀ w1, Ext w w1 → Calls Tryz.prog 21 #[.slice B mn cb, .string nm, .slice vA na vc, .bool ck] w1 fun e w' => e = .returned (.tuple #[.agg (outC (outR m nm av ck).1), .int .i64 (runE l nm av)]) ∧ Ext w1 w') := fun w1 x => by
  have h := hRun_any B cb m nm vA vc av ck w1 hmn hna (hB.ext x) (hV.ext x) hm hna2 hcm him
  rwa [he] at h
 obtain ⟨e, hee⟩ : ∃ e, e = runE l nm av := ⟨_, rfl⟩
 rw [← hee] at HL HM
 obtain ⟨ea, hea⟩ : ∃ e, e = (outR l nm av ck).1 := ⟨_, rfl⟩
 obtain ⟨eb, heb⟩ : ∃ e, e = (outR m nm av ck).1 := ⟨_, rfl⟩
 rw [← hea, ← heb] at hs
 rw [← hea] at HL
 rw [← heb] at HM
 clear hee hea heb he hA hB hV hcl hcm hil him hln hmn hna
 have hcases : ea = .long ∨ (eb = ea ∧ ea ≠ .long) := by
  by_cases h : ea = .long
  ·exact .inl h
  ·exact .inr ⟨hs h, h⟩
 clear hs
 rcases hcases with rfl | ⟨rfl, hne⟩
 ·obtain ⟨k, y, u, _, h2⟩ := enC_split eb
  rw [h2] at HM
  by_cases h0 : e = 0
  ·subst h0
   exact alike_long A B ca cb nm vA vc na ck w 2 0 rfl default k y u HL HM
  ·exact alike_err A B ca cb nm vA vc na ck w (by simpa using h0) 2 0 default k y u HL HM
 ·obtain ⟨k, y, u, h2, hk⟩ : ∃ (k y : Int) (u : Val), outC eb = #[.int .i64 k, .int .i64 u.ty.base, .int .i64 u.ty.bits, .string u.ty.name, .bool u.ty.opt, .bool u.ty.err, .int .i64 u.n, .bool u.null, .string u.err, .int .i64 u.of.base, .int .i64 u.of.bits, .string u.of.name, .bool u.of.opt, .bool u.of.err, .int .i64 y, .slice none 0 0] ∧ (k == 2) = false := by
   cases eb with
   | ret v => exact ⟨0, 0, v, rfl, rfl⟩
   | stop y => exact ⟨1, y, default, rfl, rfl⟩
   | long => exact absurd rfl hne
  rw [h2] at HL HM
  by_cases h0 : e = 0
  ·subst h0
   exact alike_same A B ca cb nm vA vc na ck w k y hk u HL HM
  ·exact alike_err A B ca cb nm vA vc na ck w (by simpa using h0) k y u k y u HL HM
theorem countR_mulP (l : List Rf) (M : Nat) (h : ∀ f, f ∈ l → f.code.length ≤ M) : countR l ≤ l.length * M := by
 unfold countR
 induction l with
 | nil => simp
 | cons f l ih =>
  have h1 := h f (List.mem_cons_self ..)
  have h2 := ih fun g hg => h g (List.mem_cons_of_mem _ hg)
  rw [List.map_cons, List.sum_cons, List.length_cons, Nat.add_mul]
  omega
theorem valid_in {l : List Rf} (h : validR l = 0) : RgsIn l ∧ (∀ f, f ∈ l → SizesF f) ∧ l.length ≤ 48 ∧ countR l ≤ 6000 := by
 obtain ⟨h1, h2, h3⟩ := validR_parts h
 have hp : ∀ i, i < l.length → (l.getD i default).params ≤ 4 := fun i hi => (h3 i hi).1.par.2
 have key : ∀ f, f ∈ l → GoodF l f := fun f hf => by
  obtain ⟨i, hi, rfl⟩ := List.getElem_of_mem hf
  have := (h3 i hi).1
  rwa [← getD_lt hi] at this
 refine ⟨fun f hf x hx => ?_, fun f hf => ⟨by have := (key f hf).few; omega, fun x hx => by have := (key f hf).fewargs hp hx; omega⟩, h1, h2⟩
 have := (key f hf).fewargs hp hx
 have ho := ((key f hf).at_ hx).op
 exact ⟨by unfold In64; omega, by omega⟩
theorem permutes_any (A : Option Addr) (ca : Nat) (l : List Rf) {ln : Nat} (k : Int) (tA : Option Addr) (tc : Nat) (tq : List Int) {nt : Nat} (nm : ByteArray) (vA : Option Addr) (vc : Nat) (av : List Val) {na : Nat} (ck : Bool) (w : World) (L : Laid w) (hln : ln = l.length) (hnt : nt = tq.length) (hna : na = av.length) (hA : RfAt w A l) (hT : NumsAt w tA tq) (hV : ValsAt w vA av)
  (hl : ln ≤ 140737488355328) (ht : nt ≤ 140737488355328) (hn : na ≤ 140737488355328) (hfl : ∀ f, f ∈ l → f.code.length ≤ 140737488355328) (hin : RgsIn l) :
  Calls Tryz.prog 9 #[.slice A ln ca, .agg #[.int .i64 k, .slice tA nt tc], .agg #[.string nm, .slice vA na vc, .bool ck]] w fun e w' => e = .returned (.bool true) ∧ Ext w w' := by
 have hcl : ln ≤ 100 → countR l ≤ 9223372036854775806 := fun h => by
  have h1 := countR_mulP l _ hfl
  have h2 := Nat.mul_le_mul_right 140737488355328 h
  omega
 have HLG : Hid (∀ w1, Ext w w1 → Calls Tryz.prog 18 #[.slice A ln ca] w1 fun e w' => e = .returned (.bool (longR l)) ∧ w1 = w') := fun w1 x => hlong_any A ca l w1 hln (hA.ext x) (by omega) (fun f hf => by have := hfl f hf; omega) hcl
 have HKN : Hid (∀ w1, Ext w w1 → Calls Tryz.prog 19 #[] w1 fun e w' => e = .returned (.bool true) ∧ Ext w1 w') := fun w1 x => rknown_any w1 (L.ext x)
 have H1 : Hid (nt ≤ 100 → ∀ w1, Ext w w1 → Calls Tryz.prog 45 #[.slice A ln ca, .int .i64 k, .slice tA nt tc] w1 fun e w' => ∃ M A' c', e = .returned (.tuple #[.slice A' M.length c', .int .i64 (permE l k tq)]) ∧ RfAt w' A' M ∧ LikeR M (permR l k tq) ∧ Ext w1 w') := fun h w1 x => gPermute_any A ca l k tA tc tq w1 (L.ext x) hln hnt (hA.ext x) (hT.ext x) (by omega) (by omega) (fun h => hcl (by omega)) hin
 have H2 : Hid (nt ≤ 100 → ∀ w1, Ext w w1 → Calls Tryz.prog 46 #[.slice A ln ca, .int .i64 k, .slice tA nt tc] w1 fun e w' => ∃ M A' c', e = .returned (.tuple #[.slice A' M.length c', .int .i64 (permE l k tq)]) ∧ RfAt w' A' M ∧ LikeR M (permR l k tq) ∧ Ext w1 w') := fun h w1 x => hPermute_any A ca l k tA tc tq w1 hln hnt (hA.ext x) (hT.ext x) (by omega) (by omega) (fun h => hcl (by omega)) hin
 have HSM : Hid (∀ (M N : List Rf) (A1 A2 : Option Addr) (c1 c2 : Nat) (w1 : World), LikeR M (permR l k tq) → LikeR N (permR l k tq) → RfAt w1 A1 M → RfAt w1 A2 N → Calls Tryz.prog 44 #[.slice A1 M.length c1, .slice A2 N.length c2] w1 fun e w' => e = .returned (.bool true) ∧ Ext w1 w') := fun M N A1 A2 c1 c2 w1 l1 l2 m1 m2 => by
  have key : ∀ {K : List Rf}, LikeR K (permR l k tq) → K.length ≤ 9223372036854775806 ∧ ∀ f, f ∈ K → SizesF f := fun {K} hK => by
   by_cases hp : permE l k tq = 0
   ·obtain ⟨hv, n, rfl, hn, hb, hr⟩ := permE_ok hp
    have hv2 : validR K = 0 := by rw [validR_like hK, hr]; exact valid_perm hn hb hv
    obtain ⟨_, a2, a3, _⟩ := valid_in hv2
    exact ⟨by omega, a2⟩
   ·have hz : permR l k tq = [] := by unfold permR; rw [if_neg hp]
    rw [hz] at hK
    have hK0 : K = [] := List.length_eq_zero_iff.1 hK.len
    subst hK0
    exact ⟨by decide, fun f hf => by cases hf⟩
  have h := hSame_any A1 A2 c1 c2 M N w1 rfl rfl m1 m2 (key l1).1 (key l2).1 (key l1).2 (key l2).2
  rwa [sameR_like (l1.trans l2.symm)] at h
 have HAK : Hid (permE l k tq = 0 → ln ≤ 100 → na ≤ 100 → ∀ (M : List Rf) (A1 : Option Addr) (c1 : Nat) (w1 : World), Ext w w1 → LikeR M (permR l k tq) → RfAt w1 A1 M → Calls Tryz.prog 47 #[.slice A ln ca, .slice A1 M.length c1, .agg #[.string nm, .slice vA na vc, .bool ck]] w1 fun e w' => e = .returned (.bool true) ∧ Ext w1 w') := fun hp h100 hn100 M A1 c1 w1 x l1 m1 => by
  obtain ⟨hv, n, rfl, hn, hb, hr⟩ := permE_ok hp
  have hv2 : validR M = 0 := by rw [validR_like l1, hr]; exact valid_perm hn hb hv
  obtain ⟨a1, a2, a3, a4⟩ := valid_in hv2
  refine alike_any A A1 ca c1 l M nm vA vc av ck w1 hln rfl hna (hA.ext x) m1 (hV.ext x) (by omega) (by omega) (by omega) (fun h => hcl (by omega)) (fun _ => by omega) hin a1 ?_ ?_
  ·rw [runE_like l1, hr, runE_perm hn hb hv]
  ·intro _
   rw [outR_like l1, hr, outR_perm hn hb hv]
 have HLN : Hid (longR l = false → ln ≤ 100) := fun h => by
  unfold longR at h
  simp only [Bool.or_eq_false_iff, decide_eq_false_iff_not] at h
  have := h.2.1
  omega
 obtain ⟨lb, hlb⟩ : ∃ lb, lb = longR l := ⟨_, rfl⟩
 rw [← hlb] at HLG HLN
 obtain ⟨e, he⟩ : ∃ e, e = permE l k tq := ⟨_, rfl⟩
 rw [← he] at H1 H2 HAK
 clear hlb he hA hT hV hfl hin hln hnt hna hcl L
 cases lb
 ·have hln2 := HLN.out rfl
  by_cases hn1 : nt ≤ 100
  ·by_cases hn2 : na ≤ 100
   ·have G1 := Lib.hid (H1.out hn1)
    have G2 := Lib.hid (H2.out hn1)
    by_cases h0 : e = 0
    ·subst h0
     have GA := Lib.hid (HAK.out rfl hln2 hn2)
     clear H1 H2 HAK HLN
     go_enter Tryz.func9, Tryz.ntmps9
     go_wp2_with (first
      | (go_at_call 18; refine (HLG.out _ exA).mono ?_; rintro r w' ⟨rfl, rfl⟩)
      | (go_at_call 45; refine (G1.out _ exA).mono ?_; rintro r w1 ⟨M1, A1, c1, rfl, m1, l1, x1⟩; have M1A := Lib.hid m1; have L1 := Lib.hid l1; clear m1 l1; have y1 := x1.facts; have z1 : w.heap.size < w1.heap.size := (by have h := x1.size; simp at h; omega); have z1b : w.heap.size + 1 < w1.heap.size := (by have h := x1.size; simp at h; omega))
      | (go_at_call 46; refine (G2.out _ exA).mono ?_; rintro r w2 ⟨M2, A2, c2, rfl, m2, l2, x2⟩; have M2A := Lib.hid m2; have L2 := Lib.hid l2; clear m2 l2; have y2 := x2.facts; have z2 : w.heap.size < w2.heap.size := (by have h := x2.size; omega); have z2b : w.heap.size + 1 < w2.heap.size := (by have h := x2.size; omega))
      | (go_at_call 44; refine (HSM.out M1 M2 A1 A2 c1 c2 _ L1.out L2.out (M1A.out.ext exA) M2A.out).mono ?_; rintro r w3 ⟨rfl, x3⟩; have y3 := x3.facts; have z3 : w.heap.size < w3.heap.size := (by have h := x3.size; omega); have z3b : w.heap.size + 1 < w3.heap.size := (by have h := x3.size; omega))
      | (go_at_call 47; refine (GA.out M1 A1 c1 _ exA L1.out (M1A.out.ext exA)).mono ?_; rintro r w4 ⟨rfl, x4⟩)
      | (go_at_call 19; refine (HKN.out _ exA).mono ?_; rintro r w8 ⟨rfl, x8⟩))
     go_ret
     exact ⟨rfl, exA⟩
    ·have hb : (e != 0) = true := by simpa using h0
     clear H1 H2 HAK HLN
     go_enter Tryz.func9, Tryz.ntmps9
     go_wp2_with (first
      | (go_at_call 18; refine (HLG.out _ exA).mono ?_; rintro r w' ⟨rfl, rfl⟩)
      | (go_at_call 45; refine (G1.out _ exA).mono ?_; rintro r w1 ⟨M1, A1, c1, rfl, m1, l1, x1⟩; have M1A := Lib.hid m1; have L1 := Lib.hid l1; clear m1 l1; have y1 := x1.facts; have z1 : w.heap.size < w1.heap.size := (by have h := x1.size; simp at h; omega); have z1b : w.heap.size + 1 < w1.heap.size := (by have h := x1.size; simp at h; omega))
      | (go_at_call 46; refine (G2.out _ exA).mono ?_; rintro r w2 ⟨M2, A2, c2, rfl, m2, l2, x2⟩; have M2A := Lib.hid m2; have L2 := Lib.hid l2; clear m2 l2; have y2 := x2.facts; have z2 : w.heap.size < w2.heap.size := (by have h := x2.size; omega); have z2b : w.heap.size + 1 < w2.heap.size := (by have h := x2.size; omega))
      | (go_at_call 44; refine (HSM.out M1 M2 A1 A2 c1 c2 _ L1.out L2.out (M1A.out.ext exA) M2A.out).mono ?_; rintro r w3 ⟨rfl, x3⟩)
      | (go_at_call 19; refine (HKN.out _ exA).mono ?_; rintro r w8 ⟨rfl, x8⟩))
     go_ret
     exact ⟨rfl, exA⟩
   ·have hq : (100 : Int) < (na : Int) := by omega
    clear H1 H2 HAK HSM
    go_enter Tryz.func9, Tryz.ntmps9
    go_wp2_with (first
     | (go_at_call 18; refine (HLG.out _ exA).mono ?_; rintro r w' ⟨rfl, rfl⟩)
     | (go_at_call 19; refine (HKN.out _ exA).mono ?_; rintro r w8 ⟨rfl, x8⟩))
    go_ret
    exact ⟨rfl, exA⟩
  ·have hq : (100 : Int) < (nt : Int) := by omega
   clear H1 H2 HAK HSM
   go_enter Tryz.func9, Tryz.ntmps9
   go_wp2_with (first
    | (go_at_call 18; refine (HLG.out _ exA).mono ?_; rintro r w' ⟨rfl, rfl⟩)
    | (go_at_call 19; refine (HKN.out _ exA).mono ?_; rintro r w8 ⟨rfl, x8⟩))
   go_ret
   exact ⟨rfl, exA⟩
 ·clear H1 H2 HAK HSM HLN
  go_enter Tryz.func9, Tryz.ntmps9
  go_wp2_with (first
   | (go_at_call 18; refine (HLG.out _ exA).mono ?_; rintro r w' ⟨rfl, rfl⟩)
   | (go_at_call 19; refine (HKN.out _ exA).mono ?_; rintro r w8 ⟨rfl, x8⟩))
  go_ret
  exact ⟨rfl, exA⟩
end Go.Proofs.YtknaemlnhediaaaGreatDoor.c
