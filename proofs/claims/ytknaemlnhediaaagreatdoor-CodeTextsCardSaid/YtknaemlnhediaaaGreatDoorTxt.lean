/- Texts of lines: plainly, a text tells its lines, and lines tell which functions there are, if heads have a colon and no other line has. No condition. -/
import Derived.Test.YtknaemlnhediaaaGreatDoorLib
namespace Go.Proofs.YtknaemlnhediaaaGreatDoor.c
open Go.RowKit
set_option linter.unusedVariables false
set_option linter.unusedSimpArgs false
theorem cut_at {b:UInt8}:∀ {x x' r r':List UInt8},b ∉ x → b ∉ x' → x ++ b :: r=x' ++ b :: r' → x=x'∧r=r'
 | [],[],_,_,_,_,h=>⟨rfl,(List.cons.inj h).2⟩
 | [],y :: x',_,_,_,h2,h=>by
  have h3:=(List.cons.inj h).1
  exact absurd (by rw [h3]; exact List.mem_cons_self ..) h2
 | y :: x,[],_,_,h1,_,h=>by
  have h3:=(List.cons.inj h).1
  exact absurd (by rw [← h3]; exact List.mem_cons_self ..) h1
 | y :: x,z :: x',_,_,h1,h2,h=>by
  obtain ⟨e,h3⟩:=List.cons.inj h
  obtain ⟨e2,e3⟩:=cut_at (fun k=>h1 (List.mem_cons_of_mem _ k)) (fun k=>h2 (List.mem_cons_of_mem _ k)) h3
  exact ⟨by rw [e,e2],e3⟩
def linesT (L:List (List UInt8)):List UInt8:=(L.map (· ++ [10])).flatten
theorem linesT_cons (x:List UInt8) (L:List (List UInt8)):linesT (x :: L)=x ++ 10 :: linesT L:=by simp [linesT]
theorem linesT_append (L M:List (List UInt8)):linesT (L ++ M)=linesT L ++ linesT M:=by simp [linesT]
theorem linesT_inj:∀ {L M:List (List UInt8)},(∀ x,x ∈ L → (10:UInt8) ∉ x) → (∀ x,x ∈ M → (10:UInt8) ∉ x) → linesT L=linesT M → L=M
 | [],[],_,_,_=>rfl
 | [],y :: M,_,_,h=>by rw [linesT_cons] at h; simp [linesT] at h
 | x :: L,[],_,_,h=>by rw [linesT_cons] at h; simp [linesT] at h
 | x :: L,y :: M,h1,h2,h=>by
  rw [linesT_cons,linesT_cons] at h
  obtain ⟨e,e2⟩:=cut_at (h1 x (List.mem_cons_self ..)) (h2 y (List.mem_cons_self ..)) h
  rw [e,linesT_inj (fun z hz=>h1 z (List.mem_cons_of_mem _ hz)) (fun z hz=>h2 z (List.mem_cons_of_mem _ hz)) e2]
def funT (L:List (List UInt8 × List (List UInt8))):List (List UInt8):=L.flatMap fun x=>x.1 :: x.2
theorem tails_inj:∀ {c d:List (List UInt8)} {L M:List (List UInt8 × List (List UInt8))},(∀ x,x ∈ c → (58:UInt8) ∉ x) → (∀ x,x ∈ d → (58:UInt8) ∉ x) → (∀ y,y ∈ L → (58:UInt8) ∈ y.1) → (∀ y,y ∈ M → (58:UInt8) ∈ y.1) → c ++ funT L=d ++ funT M → c=d∧funT L=funT M
 | [],[],_,_,_,_,_,_,h=>⟨rfl,h⟩
 | [],y :: d,[],M,_,_,_,_,h=>by simp [funT] at h
 | [],y :: d,x :: L,M,_,h2,h3,_,h=>by
  have e:x.1=y:=by simpa [funT] using (List.cons.inj (show x.1 :: (x.2 ++ funT L)=y :: (d ++ funT M) by simpa [funT] using h)).1
  exact absurd (by rw [← e]; exact h3 x (List.mem_cons_self ..)) (h2 y (List.mem_cons_self ..))
 | x :: c,[],L,[],_,_,_,_,h=>by simp [funT] at h
 | x :: c,[],L,y :: M,h1,_,_,h4,h=>by
  have e:x=y.1:=by simpa [funT] using (List.cons.inj (show x :: (c ++ funT L)=y.1 :: (y.2 ++ funT M) by simpa [funT] using h)).1
  exact absurd (by rw [e]; exact h4 y (List.mem_cons_self ..)) (h1 x (List.mem_cons_self ..))
 | x :: c,y :: d,L,M,h1,h2,h3,h4,h=>by
  obtain ⟨e,h5⟩:=List.cons.inj h
  obtain ⟨e2,e3⟩:=tails_inj (fun z hz=>h1 z (List.mem_cons_of_mem _ hz)) (fun z hz=>h2 z (List.mem_cons_of_mem _ hz)) h3 h4 h5
  exact ⟨by rw [e,e2],e3⟩
theorem funT_inj:∀ {L M:List (List UInt8 × List (List UInt8))},(∀ y,y ∈ L → (58:UInt8) ∈ y.1∧∀ x,x ∈ y.2 → (58:UInt8) ∉ x) → (∀ y,y ∈ M → (58:UInt8) ∈ y.1∧∀ x,x ∈ y.2 → (58:UInt8) ∉ x) → funT L=funT M → L=M
 | [],[],_,_,_=>rfl
 | [],y :: M,_,_,h=>by simp [funT] at h
 | x :: L,[],_,_,h=>by simp [funT] at h
 | x :: L,y :: M,h1,h2,h=>by
  have h3:x.1 :: (x.2 ++ funT L)=y.1 :: (y.2 ++ funT M):=by simpa [funT] using h
  obtain ⟨e,h4⟩:=List.cons.inj h3
  obtain ⟨e2,h5⟩:=tails_inj (h1 x (List.mem_cons_self ..)).2 (h2 y (List.mem_cons_self ..)).2 (fun z hz=>(h1 z (List.mem_cons_of_mem _ hz)).1) (fun z hz=>(h2 z (List.mem_cons_of_mem _ hz)).1) h4
  have e3:=funT_inj (fun z hz=>h1 z (List.mem_cons_of_mem _ hz)) (fun z hz=>h2 z (List.mem_cons_of_mem _ hz)) h5
  rw [show x=y from Prod.ext e e2,e3]
def fieldsT:List (List UInt8) → List UInt8
 | []=>[]
 | [x]=>x
 | x :: y :: L=>x ++ 32 :: fieldsT (y :: L)
theorem fieldsT_inj:∀ {L M:List (List UInt8)},L.length=M.length → (∀ x,x ∈ L → (32:UInt8) ∉ x) → (∀ x,x ∈ M → (32:UInt8) ∉ x) → fieldsT L=fieldsT M → L=M
 | [],[],_,_,_,_=>rfl
 | [x],[y],_,_,_,h=>by rw [show x=y from h]
 | x :: x2 :: L,y :: y2 :: M,hl,h1,h2,h=>by
  obtain ⟨e,h3⟩:=cut_at (h1 x (List.mem_cons_self ..)) (h2 y (List.mem_cons_self ..)) (show x ++ 32 :: fieldsT (x2 :: L)=y ++ 32 :: fieldsT (y2 :: M) from h)
  rw [e,fieldsT_inj (by simpa using hl) (fun z hz=>h1 z (List.mem_cons_of_mem _ hz)) (fun z hz=>h2 z (List.mem_cons_of_mem _ hz)) h3]
 | [],_ :: _,hl,_,_,_=>by simp at hl
 | _ :: _,[],hl,_,_,_=>by simp at hl
 | [_],_ :: _ :: _,hl,_,_,_=>by simp at hl
 | _ :: _ :: _,[_],hl,_,_,_=>by simp at hl
end Go.Proofs.YtknaemlnhediaaaGreatDoor.c
