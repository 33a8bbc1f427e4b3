/- Right code is good for being gone through. No program in sight. -/
import Derived.Test.YtknaemlnhediaaaGreatDoorRval
import Derived.Test.YtknaemlnhediaaaGreatDoorReach
namespace Go.Proofs.YtknaemlnhediaaaGreatDoor.c
set_option linter.unusedVariables false
set_option linter.unusedSimpArgs false

theorem valid_parts {l:List Fc} (h:validS l=0):l.length ≤ 48∧countS l ≤ 2000∧(∀ f ∈ l,f.places ≤ 200)∧∀ k,k < l.length → fcS l (l.getD k default)=true∧indexS l (l.getD k default).name=k:=by
 unfold validS at h
 by_cases h1:48 < l.length ∨ 2000 < countS l ∨ (∃ f ∈ l,200 < f.places)
 ·rw [if_pos h1] at h; cases h
 ·rw [if_neg h1] at h
  by_cases h2:∀ k,k < l.length → fcS l (l.getD k default)=true∧indexS l (l.getD k default).name=k
  ·refine ⟨Nat.le_of_not_lt fun e=>h1 (.inl e),Nat.le_of_not_lt fun e=>h1 (.inr (.inl e)),fun f hf=>?_,h2⟩
   exact Int.not_lt.1 fun e=>h1 (.inr (.inr ⟨f,hf,e⟩))
  ·rw [if_neg h2] at h; cases h
theorem len_count {l:List Fc} {f:Fc} (hf:f ∈ l):f.code.length ≤ countS l:=by
 unfold countS
 induction l with
 | nil=>cases hf
 | cons g l ih =>
  rw [List.map_cons,List.sum_cons]
  rcases List.mem_cons.1 hf with rfl | h
  ·omega
  ·have:=ih h; omega
theorem fcS_parts {l:List Fc} {f:Fc} (h:fcS l f=true):0 ≤ f.params∧f.params ≤ f.places∧1 ≤ f.code.length∧∀ x ∈ f.code,instS l f x=true:=by
 unfold fcS inB at h
 simp only [Bool.and_eq_true,decide_eq_true_eq,List.all_eq_true] at h
 exact ⟨h.2.1.1,h.2.1.2,h.2.2.2.1,h.2.2.2.2⟩
theorem valid_fc {l:List Fc} (h:validS l=0) {f:Fc} (hf:f ∈ l):fcS l f=true:=by
 obtain ⟨j,hj,rfl⟩:=List.getElem_of_mem hf
 have:=((valid_parts h).2.2.2 j hj).1
 rwa [List.getD,List.getElem?_eq_getElem hj,Option.getD_some] at this
theorem sane_inst {l:List Fc} (h:validS l=0) {f:Fc} {x:Cd} (hi:instS l f x=true):0 ≤ takesS x∧takesS x ≤ 200∧(leadsS x.op=true → 0 ≤ x.a∧x.a < f.code.length):=by
 obtain ⟨op,a,b,ty,nm⟩:=x
 have hlead:leadsS op=true → (op=12 ∨ op=13 ∨ op=14 ∨ op=15):=by
  intro e
  unfold leadsS at e
  simpa using e
 by_cases h16:op=16
 ·subst h16
  unfold instS shapeS at hi
  simp at hi
  obtain ⟨h1,⟨h2,h3⟩,h4⟩:=hi
  have h5:(indexS l nm).toNat < l.length:=by
   unfold indexS at h2 ⊢
   rcases findI_cases (fun k=>(l.getD k default).name.toList == nm.toList) l.length with ⟨e,_⟩ | ⟨k,e,hk,_⟩
   ·rw [e] at h2; omega
   ·rw [e]; simpa using hk
  have h6:=getD_mem h5
  have h7:=fcS_parts (valid_fc h h6)
  have h8:=(valid_parts h).2.2.1 _ h6
  have e:takesS ⟨16,a,b,ty,nm⟩=b:=rfl
  rw [e]
  have h3':b=(l.getD (indexS l nm).toNat default).params:=by simpa using h3
  refine ⟨by omega,by omega,fun hl=>?_⟩
  cases hl
 ·have hb:∀ (b:Bool) (u v:Int),(0 ≤ u∧u ≤ 200) → (0 ≤ v∧v ≤ 200) → 0 ≤ (bif b then u else v)∧(bif b then u else v) ≤ 200:=by
   intro b u v hu hv
   cases b
   ·exact hv
   ·exact hu
  have ht:0 ≤ takesS ⟨op,a,b,ty,nm⟩∧takesS ⟨op,a,b,ty,nm⟩ ≤ 200:=by
   unfold takesS
   simp only [show (op == 16)=false by simpa using h16,cond_false]
   exact hb _ _ _ (by decide) (hb _ _ _ (by decide) (hb _ _ _ (by decide) (hb _ _ _ (by decide) (by decide))))
  refine ⟨ht.1,ht.2,fun hl=>?_⟩
  ·have h12:=hlead hl
   unfold instS shapeS inB at hi
   rcases h12 with rfl | rfl | rfl | rfl <;>
   ·simp at hi
    exact ⟨hi.1.1,by show a < f.code.length; omega⟩
theorem sane_of {l:List Fc} (h:validS l=0) {f:Fc} (hf:f ∈ l):Sane f.code:=by
 have h1:=fcS_parts (valid_fc h hf)
 have h2:=len_count hf
 have h3:=(valid_parts h).2.1
 exact ⟨h1.2.2.1,by omega,fun x hx=>sane_inst h (h1.2.2.2 x hx)⟩
end Go.Proofs.YtknaemlnhediaaaGreatDoor.c
