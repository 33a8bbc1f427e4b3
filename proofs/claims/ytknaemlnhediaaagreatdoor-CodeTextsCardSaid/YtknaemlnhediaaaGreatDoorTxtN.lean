/- Decimal digits: which bytes they are, and that they tell the number. No condition. -/
import Derived.Test.YtknaemlnhediaaaGreatDoorTxt
import Derived.Lib.ItoaNum
namespace Go.Proofs.YtknaemlnhediaaaGreatDoor.c
open Go.RowKit
set_option linter.unusedVariables false
set_option linter.unusedSimpArgs false
def valD (l:List UInt8):Nat:=l.foldl (fun a c=>a * 10 + (c.toNat - 48)) 0
theorem valD_snoc (l:List UInt8) (c:UInt8):valD (l ++ [c])=valD l * 10 + (c.toNat - 48):=by simp [valD,List.foldl_append]
theorem digit_nat {u:Nat} (h:u < 10):(UInt8.ofNat (48 + u)).toNat=48 + u:=by
 rw [UInt8.toNat_ofNat']
 omega
theorem dec_val (u:Nat):valD (Lib.decDigits u)=u∧∀ c,c ∈ Lib.decDigits u → 48 ≤ c.toNat∧c.toNat ≤ 57:=by
 induction u using Nat.strongRecOn with
 | ind u ih =>
  rw [Lib.decDigits]
  by_cases h:u < 10
  ·rw [dif_pos h]
   refine ⟨?_,fun c hc=>?_⟩
   ·have:=digit_nat h
    simp only [valD,List.foldl_cons,List.foldl_nil,this]
    omega
   ·have e:c=UInt8.ofNat (48 + u):=by simpa using hc
    rw [e,digit_nat h]
    omega
  ·rw [dif_neg h]
   obtain ⟨h1,h2⟩:=ih (u / 10) (by omega)
   have hm:u % 10 < 10:=Nat.mod_lt _ (by decide)
   refine ⟨?_,fun c hc=>?_⟩
   ·rw [valD_snoc,h1,digit_nat hm]
    omega
   ·rcases List.mem_append.1 hc with h3 | h3
    ·exact h2 c h3
    ·have e:c=UInt8.ofNat (48 + u % 10):=by simpa using h3
     rw [e,digit_nat hm]
     omega
theorem dec_inj {u v:Nat} (h:Lib.decDigits u=Lib.decDigits v):u=v:=by rw [← (dec_val u).1,h,(dec_val v).1]
theorem itoa_mem {n:Int} {c:UInt8} (h:c ∈ Lib.itoa n):c=45 ∨ (48 ≤ c.toNat∧c.toNat ≤ 57):=by
 unfold Lib.itoa at h
 split at h
 ·rcases List.mem_cons.1 h with h1 | h1
  ·exact .inl h1
  ·exact .inr ((dec_val _).2 c h1)
 ·exact .inr ((dec_val _).2 c h)
theorem itoa_no {n:Int}:(32:UInt8) ∉ Lib.itoa n∧(10:UInt8) ∉ Lib.itoa n∧(58:UInt8) ∉ Lib.itoa n:=by
 refine ⟨fun h=>?_,fun h=>?_,fun h=>?_⟩
 all_goals
  rcases itoa_mem h with h1 | h1
  ·exact absurd h1 (by decide)
  ·exact absurd h1 (by decide)
theorem itoa_inj {n m:Int} (h:Lib.itoa n=Lib.itoa m):n=m:=by
 have key:∀ (u v:Nat),Lib.decDigits u=45 :: Lib.decDigits v → False:=fun u v e=>by
  have:=(dec_val u).2 45 (by rw [e]; exact List.mem_cons_self ..)
  exact absurd this (by decide)
 unfold Lib.itoa at h
 split at h <;> split at h
 ·have:=dec_inj (List.cons.inj h).2
  omega
 ·exact (key _ _ h.symm).elim
 ·exact (key _ _ h).elim
 ·have:=dec_inj h
  omega
end Go.Proofs.YtknaemlnhediaaaGreatDoor.c
