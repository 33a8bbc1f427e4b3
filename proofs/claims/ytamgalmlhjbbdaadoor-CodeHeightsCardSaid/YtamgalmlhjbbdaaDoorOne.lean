/- The two codes that known looks at: what Check says of them. No program in sight. -/
import Derived.Test.YtamgalmlhjbbdaaDoorSane
namespace Go.Proofs.YtamgalmlhjbbdaaDoor.c
set_option linter.unusedVariables false
set_option linter.unusedSimpArgs false
def tyZ : Ty := ⟨0, 0, ⟨#[]⟩, false, false⟩
def tyB : Ty := ⟨2, 8, ⟨#[]⟩, false, false⟩
def cPush : Cd := ⟨0, 1, 0, tyB, ⟨#[]⟩⟩
def cRet : Cd := ⟨17, 0, 0, tyZ, ⟨#[]⟩⟩
def cBr : Cd := ⟨15, 0, 0, tyZ, ⟨#[]⟩⟩
def fOne (A : Option Addr) (x : Cd) : Fc := ⟨⟨#[102]⟩, 0, 0, tyZ, A, 2, [cPush, x]⟩
theorem name_f : isNameS ⟨#[102]⟩ = true := by decide
theorem emp_nil : emp ⟨#[]⟩ = true := by
  unfold emp
  rw [Lib.toList_data]
  rfl
theorem ran_z : isRanS tyZ = true := by simp [isRanS, isTypeS, tyZ, emp_nil]
theorem inst_push (l : List Fc) (f : Fc) : instS l f cPush = true := by simp [instS, shapeS, cPush, inB, pushS, isIntS, isPlainS, isTypeS, tyB, bitsOk, emp_nil]
theorem inst_ret (l : List Fc) (f : Fc) : instS l f cRet = true := by simp [instS, shapeS, cRet, tz, tyZ, emp_nil]
theorem inst_br (l : List Fc) (f : Fc) (h : 1 ≤ f.code.length) : instS l f cBr = true := by simp [instS, shapeS, cBr, tz, tyZ, emp_nil, inB]; omega
theorem valid_one (A : Option Addr) (x : Cd) (hx : x = cRet ∨ x = cBr) : validS [fOne A x] = 0 := by
  unfold validS
  rw [if_neg, if_pos]
  · intro k hk
    have : k = 0 := by simp at hk; omega
    subst this
    have e : [fOne A x].getD 0 default = fOne A x := rfl
    rw [e]
    constructor
    · unfold fcS
      rw [show (fOne A x).name = ⟨#[102]⟩ from rfl, name_f, show (fOne A x).ty = tyZ from rfl, ran_z]
      rcases hx with rfl | rfl
      · simp [fOne, inB, inst_push, inst_ret]
      · simp [fOne, inB, inst_push, inst_br]
    · exact findI_hit (k := 0) (by simp) (by simp) (by omega)
  · rintro (h | h | ⟨f, hf, h⟩)
    · simp at h
    · simp [countS, fOne] at h
    · rw [List.mem_singleton] at hf
      subst hf
      have : (fOne A x).places = 0 := rfl
      omega
theorem reach_one {x : Cd} (hx : x = cRet ∨ x = cBr) {p : Int × Int} (h : Reach [cPush, x] p) : p = (0, 0) ∨ p = (1, 1) := by
  induction h with
  | start => exact .inl rfl
  | lead _ ok ld ih =>
    rcases ih with rfl | rfl
    · cases ld
    · rcases hx with rfl | rfl
      · cases ld
      · exact .inl rfl
  | next _ ok go ne ih =>
    rcases ih with rfl | rfl
    · exact .inr rfl
    · exact absurd rfl ne
theorem least_one : Least (BadIn [cPush, cRet] (Reach [cPush, cRet])) (-1) := by
  refine ⟨fun _ => ⟨rfl, ?_⟩, fun h => absurd h (by decide)⟩
  rintro i (⟨p, hp, _, hb⟩ | ⟨p, q, hp, hq, h1, h2, hne⟩)
  · rcases reach_one (.inl rfl) hp with rfl | rfl
    · rcases hb with hb | hb
      · cases hb
      · exact absurd hb.2 (by decide)
    · rcases hb with hb | hb
      · cases hb
      · cases hb.1
  · rcases reach_one (.inl rfl) hp with rfl | rfl <;> rcases reach_one (.inl rfl) hq with rfl | rfl
    · exact hne rfl
    · simp only [] at h1 h2; omega
    · simp only [] at h1 h2; omega
    · exact hne rfl
theorem least_two : Least (BadIn [cPush, cBr] (Reach [cPush, cBr])) 1 := by
  refine ⟨fun h => absurd h (by decide), fun _ => ⟨.inl ⟨(1, 1), ?_, rfl, .inr ⟨rfl, rfl⟩⟩, ?_⟩⟩
  · exact Reach.next (c := [cPush, cBr]) (p := (0, 0)) .start rfl rfl (by decide)
  rintro i (⟨p, hp, h1, hb⟩ | ⟨p, q, hp, hq, h1, h2, hne⟩)
  · rcases reach_one (.inr rfl) hp with rfl | rfl
    · rcases hb with hb | hb
      · cases hb
      · exact absurd hb.2 (by decide)
    · simp only [] at h1; omega
  · rcases reach_one (.inr rfl) hp with rfl | rfl <;> rcases reach_one (.inr rfl) hq with rfl | rfl
    · exact absurd rfl hne
    · simp only [] at h1 h2; omega
    · simp only [] at h1 h2; omega
    · simp only [] at h1; omega
end Go.Proofs.YtamgalmlhjbbdaaDoor.c
