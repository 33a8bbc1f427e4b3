/- Which instruction is wrong first, and what Check answers, told plainly. No program in sight. -/
import Derived.Test.YtknaemlnhediaaaGreatDoorSane
namespace Go.Proofs.YtknaemlnhediaaaGreatDoor.c
open Go.RowKit
set_option linter.unusedVariables false
set_option linter.unusedSimpArgs false
open Classical in
noncomputable def unsoundS (c:List Cd):Int:=if h:∃ w,Least (BadIn c (Reach c)) w then Classical.choose h else 0
theorem unsound_eq {c:List Cd} {w:Int} (h:Least (BadIn c (Reach c)) w):unsoundS c=w:=by
 unfold unsoundS
 rw [dif_pos ⟨w,h⟩]
 exact (Classical.choose_spec (⟨w,h⟩:∃ w,Least (BadIn c (Reach c)) w)).one h
noncomputable def badK (l:List Fc):Int:=findI (fun k=>decide (0 ≤ unsoundS (l.getD k default).code)) l.length
noncomputable def checkE (l:List Fc):Int × Int × Int:=if validS l=0 then (if 0 ≤ badK l then (badK l,unsoundS (l.getD (badK l).toNat default).code,7) else (0,0,0)) else (0,0,validS l)
theorem ret_i3c {a b c d e f:Int} (h:a=d) (h2:b=e) (h3:c=f):Ending.returned (.tuple #[.int .i64 a,.int .i64 b,.int .i64 c])=.returned (.tuple #[.int .i64 d,.int .i64 e,.int .i64 f]):=by rw [h,h2,h3]
theorem check_bad {l:List Fc} (h:validS l=0) {k:Nat} (hk:k < l.length) (hp:0 ≤ unsoundS (l.getD k default).code) (hn:∀ j,j < k → unsoundS (l.getD j default).code < 0):checkE l=((k:Int),unsoundS (l.getD k default).code,7):=by
 have e:badK l=k:=findI_hit hk (decide_eq_true hp) (fun j hj=>decide_eq_false (by have:=hn j hj; omega))
 unfold checkE
 rw [if_pos h,e,if_pos (by omega),Int.toNat_natCast]
theorem check_good {l:List Fc} (h:validS l=0) (hn:∀ j,j < l.length → unsoundS (l.getD j default).code < 0):checkE l=(0,0,0):=by
 have e:badK l=-1:=findI_none (fun j hj=>decide_eq_false (by have:=hn j hj; omega))
 unfold checkE
 rw [if_pos h,e]
 rfl
end Go.Proofs.YtknaemlnhediaaaGreatDoor.c
