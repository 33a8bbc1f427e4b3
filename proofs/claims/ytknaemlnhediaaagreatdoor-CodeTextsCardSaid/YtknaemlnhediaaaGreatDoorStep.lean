/- What an instruction does to the height: contracts of code.stepOf, code.leads, the reference's takes. No condition. -/
import Derived.Test.YtknaemlnhediaaaGreatDoorDataF
namespace Go.Proofs.YtknaemlnhediaaaGreatDoor.c
open Go.RowKit
set_option linter.unusedVariables false
set_option maxRecDepth 100000
set_option maxHeartbeats 1600000
set_option linter.unusedSimpArgs false

def takesS (x:Cd):Int :=
 bif x.op == 0 || (x.op == 1 || (x.op == 2 || (x.op == 18))) then 0 else bif x.op == 3 || (x.op == 4 || (x.op == 15 || (x.op == 17))) then 1 else bif x.op == 5 || (x.op == 6) then 2 else bif x.op == 16 then x.b else bif x.op == 14 || (x.op == 19) then 0 else 1
def putsS (x:Cd):Int :=
 bif x.op == 0 || (x.op == 1 || (x.op == 2 || (x.op == 18))) then 1 else bif x.op == 3 || (x.op == 4 || (x.op == 15 || (x.op == 17))) then 0 else bif x.op == 5 || (x.op == 6) then 1 else bif x.op == 16 then 1 else bif x.op == 14 || (x.op == 19) then 0 else 1
def goesS (x:Cd):Bool :=
 bif x.op == 0 || (x.op == 1 || (x.op == 2 || (x.op == 18))) then true else bif x.op == 3 || (x.op == 4 || (x.op == 15)) then true else bif x.op == 5 || (x.op == 6) then true else bif x.op == 16 then true else bif x.op == 14 || (x.op == 19) then false else bif x.op == 17 then false else true
theorem goes_iff (x:Cd):goesS x=!(x.op == 14 || (x.op == 19 || x.op == 17)):=by
 unfold goesS
 by_cases h1:x.op=14
 ·rw [h1]; rfl
 by_cases h2:x.op=19
 ·rw [h2]; rfl
 by_cases h3:x.op=17
 ·rw [h3]; rfl
 have e1:(x.op == 14)=false:=by simpa using h1
 have e2:(x.op == 19)=false:=by simpa using h2
 have e3:(x.op == 17)=false:=by simpa using h3
 simp [e1,e2,e3]
theorem new2 (w:World) (o:Obj) (cs:Array Value) (t:TypeId):((w.alloc o).alloc (.cells cs t)).heap[w.heap.size + 1]?=some (.cells cs t (0,0)):=by
 have h:=Blk.new (w.alloc o) t cs
 rwa [size_alloc] at h
def leadsS (op:Int):Bool:=op == 12 || (op == 13 || (op == 14 || op == 15))
theorem ret_step {a b c d:Int} {x y:Bool} (h:a=c) (h2:b=d) (h3:x=y):Ending.returned (.agg #[.int .i64 a,.int .i64 b,.bool x])=.returned (.agg #[.int .i64 c,.int .i64 d,.bool y]):=by rw [h,h2,h3]
theorem ret_two {a b c d:Int} (h:a=c) (h2:b=d):Ending.returned (.tuple #[.int .i64 a,.int .i64 b])=.returned (.tuple #[.int .i64 c,.int .i64 d]):=by rw [h,h2]
theorem stepOf_any (x:Cd) (w:World) :
  Calls Tryz.prog 190 #[x.val] w fun e w'=>e=.returned (.agg #[.int .i64 (takesS x),.int .i64 (putsS x),.bool (goesS x)])∧Ext w w':=by
 obtain ⟨op,a,b,ty,nm⟩:=x
 unfold Cd.val
 simp only []
 have HZ:Hid ((Tryz.prog.info? 237).map (·.size)=some 3):=by unfold Hid; kernel_rfl
 go_enter Tryz.func190,Tryz.ntmps190
 go_wp2
 all_goals
  refine bodyPost_ret (results_cell_row rfl _ _ (w.heap.size + 1) 237 #[.int .i64 (takesS ⟨op,a,b,ty,nm⟩),.int .i64 (putsS ⟨op,a,b,ty,nm⟩),.bool (goesS ⟨op,a,b,ty,nm⟩)] (0,0) _ rfl ?_ Tryz.underlying237 rfl HZ.out) rfl ⟨rfl,exA⟩
  refine (new2 w _ _ _).trans ?_
  first
   | (simp [takesS,putsS,goesS, *]; done)
   | (rename_i h9
      have h8:=eq_of_beq h9
      have h7:(op == 17)=false:=by rw [h8]; rfl
      simp [takesS,putsS,goesS, *])
theorem leads_any (op:Int) (w:World):Calls Tryz.prog 87 #[.int .i64 op] w fun e w'=>e=.returned (.bool (leadsS op))∧w=w':=by
 go_enter Tryz.func87,Tryz.ntmps87
 go_wp2
 all_goals
  go_ret
  exact ⟨ret_bool (by simp [leadsS, *]),rfl⟩
theorem takes_any (x:Cd) (w:World) :
  Calls Tryz.prog 228 #[x.val] w fun e w'=>e=.returned (.tuple #[.int .i64 (takesS x),.int .i64 (putsS x)])∧Ext w w':=by
 obtain ⟨op,a,b,ty,nm⟩:=x
 unfold Cd.val
 simp only []
 go_enter Tryz.func228,Tryz.ntmps228
 go_wp2
 all_goals
  go_ret2
  exact ⟨ret_two (by simp [takesS, *]) (by simp [putsS, *]),exA⟩
end Go.Proofs.YtknaemlnhediaaaGreatDoor.c
