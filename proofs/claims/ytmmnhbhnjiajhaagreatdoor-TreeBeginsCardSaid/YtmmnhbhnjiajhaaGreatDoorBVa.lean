/- The type with a text, as a plain function; reading undoes writing, and writing undoes reading. No condition. The deferred closure of tree.Parse: what it does where the parser has panicked, and where it has not. No condition but the results' cells. Contracts: the type with a text and the text of a type, by the program and by the reference. The table strings.asciiSpace holds what its text lays; texts are no longer than memory reaches. Contracts: the text of any type by the program and by the reference; the type with a text by the reference. The table strings.asciiSpace holds what its text lays (the program alone). -/
import Derived.Test.YtmmnhbhnjiajhaaGreatDoorBAri
import Derived.Test.YtmmnhbhnjiajhaaGreatDoorBTs
import Derived.Test.YtmmnhbhnjiajhaaGreatDoorBUu
import Derived.Test.YtmmnhbhnjiajhaaGreatDoorBVg
import Derived.Test.YtmmnhbhnjiajhaaGreatDoorBVd
import Derived.Defers
import Derived.Recover
import Derived.Test.YtmmnhbhnjiajhaaGreatDoorBTt
import Derived.Test.YtmmnhbhnjiajhaaGreatDoorBTty
namespace Go.Proofs.YtmmnhbhnjiajhaaGreatDoor.c
open Go.RowKit
set_option linter.unusedVariables false
set_option maxRecDepth 100000
set_option maxHeartbeats 1600000
set_option linter.unusedSimpArgs false
theorem as_wrong (t:TypeId) (v:Value) (w:World):(Instr.typeAssert (.iface 71 v) t 71 true).run Tryz.prog w=.ok (.tuple #[v,.bool true]) w:=by kernel_rfl
theorem as_nil (t:TypeId) (w:World):(Instr.typeAssert .nilIface t 71 true).run Tryz.prog w=.ok (.tuple #[.int .i64 0,.bool false]) w:=by kernel_rfl
theorem catch_panic (b2 b3 b4:Nat) (k:Nat) (older:List PanicEntry) (w:World) {x2 x3 x4:Value} (k2:Blk w b2 23 #[x2]) (k3:Blk w b3 3 #[x3]) (k4:Blk w b4 24 #[x4]) (h23:b2 ≠ b3) (h24:b2 ≠ b4) (h34:b3 ≠ b4) (h2:x2.oneCell'=true) :
  CallsD Tryz.prog 31 #[.pointer (some ⟨b2,0,none⟩),.pointer (some ⟨b3,0,none⟩),.pointer (some ⟨b4,0,none⟩)] (.panicking ({ v:=.iface 71 (.int .i64 k),recovered:=false } :: older)) w fun e u' w' =>
   e=.returned (.tuple #[])∧u'=.panicking ({ v:=.iface 71 (.int .i64 k),recovered:=true } :: older)∧w'=((w.setCell ⟨b2,0,none⟩ (.slice none 0 0)).setCell ⟨b3,0,none⟩ (.int .i64 k)).setCell ⟨b4,0,none⟩ (.int .i64 2):=by
 have c2:w.cell? ⟨b2,0,none⟩=some x2:=k2.cell 0
 have c3:w.cell? ⟨b3,0,none⟩=some x3:=k3.cell 0
 have c4:w.cell? ⟨b4,0,none⟩=some x4:=k4.cell 0
 have z2:=k2.frozen
 have z3:=k3.frozen
 have z4:=k4.frozen
 refine callsD_of_wpS Tryz.func31 rfl fun c₀ cs hu=>?_
 apply wpS_seq
 apply wpS_region
 simp [wpOpsS,go_sem,recoverD,hu,Tryz.ntmps31,Exit.thenS]
 have hta:=fun t=>as_wrong t (.int .i64 k) w
 refine wpS_of_wp ?_
 simp only [Array.replicate_succ,Array.replicate_zero,List.push_toArray,List.append_toArray,List.nil_append,List.cons_append,List.setIfInBounds_toArray,List.set]
 go_wp2_with fail
 simp [bodyPostS,results,Tryz.results31,hu]
theorem catch_idle (b2 b3 b4:Nat) (w:World) :
  CallsD Tryz.prog 31 #[.pointer (some ⟨b2,0,none⟩),.pointer (some ⟨b3,0,none⟩),.pointer (some ⟨b4,0,none⟩)] .returning w fun e u' w'=>e=.returned (.tuple #[])∧u'=.returning∧w'=w:=by
 refine callsD_of_wpS Tryz.func31 rfl fun c₀ cs hu=>?_
 apply wpS_seq
 apply wpS_region
 simp [wpOpsS,go_sem,recoverD,hu,Tryz.ntmps31,Exit.thenS]
 have hta:=fun t=>as_nil t w
 refine wpS_of_wp ?_
 simp only [Array.replicate_succ,Array.replicate_zero,List.push_toArray,List.append_toArray,List.nil_append,List.cons_append,List.setIfInBounds_toArray,List.set]
 go_wp2_with fail
 cases c₀
 simp_all [bodyPostS,results,Tryz.results31]
end Go.Proofs.YtmmnhbhnjiajhaaGreatDoor.c
