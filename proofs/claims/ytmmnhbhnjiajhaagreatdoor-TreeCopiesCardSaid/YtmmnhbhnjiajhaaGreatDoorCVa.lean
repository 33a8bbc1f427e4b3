/- The type with a text, as a plain function; reading undoes writing, and writing undoes reading. No condition. The deferred closure of tree.Parse: what it does where the parser has panicked, and where it has not. No condition but the results' cells. Contracts: the type with a text and the text of a type, by the program and by the reference. The table strings.asciiSpace holds what its text lays; texts are no longer than memory reaches. Contracts: the text of any type by the program and by the reference; the type with a text by the reference. The table strings.asciiSpace holds what its text lays (the program alone). Which programs are right, as a plain function; what the grammar reads is right. No condition. Which fields an operation, a statement, a parameter has: contracts of tree.shapeOf, forms, isDeclared, isParam. The table strings.asciiSpace holds what its text lays. Whether a list of nodes has one of a kind: contracts of slices.IndexFunc and slices.ContainsFunc, given the contract of the function that is passed. Condition: it answers as a plain function does. Which expressions, statements and blocks are right: contracts for lists of fewer than so many nodes; the function that is passed to slices.ContainsFunc. The table strings.asciiSpace holds what its text lays. Which expressions are right: one step of the induction. The table strings.asciiSpace holds what its text lays. Which statements are right: one step of the induction. The table strings.asciiSpace holds what its text lays. Which declarations and programs are right: contracts of tree.isDecl, tree.Validate. The table strings.asciiSpace holds what its text lays. -/
import Derived.Test.YtmmnhbhnjiajhaaGreatDoorCData
import Derived.Test.YtmmnhbhnjiajhaaGreatDoorCTs
import Derived.Test.YtmmnhbhnjiajhaaGreatDoorCUu
import Derived.Test.YtmmnhbhnjiajhaaGreatDoorCVg
import Derived.Test.YtmmnhbhnjiajhaaGreatDoorCVd
import Derived.Defers
import Derived.Recover
import Derived.Test.YtmmnhbhnjiajhaaGreatDoorCTt
import Derived.Test.YtmmnhbhnjiajhaaGreatDoorCTty
import Derived.Deep.LoopGhost
import Derived.Deep.CutRange
namespace Go.Proofs.YtmmnhbhnjiajhaaGreatDoor.c
open Go.RowKit
set_option linter.unusedVariables false
set_option maxRecDepth 100000
set_option maxHeartbeats 1600000
set_option linter.unusedSimpArgs false
theorem as_wrong (t:TypeId) (v:Value) (w:World):(Instr.typeAssert (.iface 71 v) t 71 true).run Tryz.prog w=.ok (.tuple #[v,.bool true]) w:=by kernel_rfl
theorem as_nil (t:TypeId) (w:World):(Instr.typeAssert .nilIface t 71 true).run Tryz.prog w=.ok (.tuple #[.int .i64 0,.bool false]) w:=by kernel_rfl
theorem catch_panic (b2 b3 b4:Nat) (k:Nat) (older:List PanicEntry) (w:World) {x2 x3 x4:Value} (k2:Blk w b2 23 #[x2]) (k3:Blk w b3 3 #[x3]) (k4:Blk w b4 24 #[x4]) (h23:b2 ≠ b3) (h24:b2 ≠ b4) (h34:b3 ≠ b4) (h2:x2.oneCell'=true) :
  CallsD Tryz.prog 31 #[.pointer (some ⟨b2,0,none⟩),.pointer (some ⟨b3,0,none⟩),.pointer (some ⟨b4,0,none⟩)] (.panicking ({ v:=.iface 71 (.int .i64 k),recovered:=false } :: older)) w fun e u' w' =>
   e=.returned (.tuple #[])∧u'=.panicking ({ v:=.iface 71 (.int .i64 k),recovered:=true } :: older)∧w'=((w.setCell ⟨b2,0,none⟩ (.slice none 0 0)).setCell ⟨b3,0,none⟩ (.int .i64 k)).setCell ⟨b4,0,none⟩ (.int .i64 2):=by
 have c2:w.cell? ⟨b2,0,none⟩=some x2:=k2.cell 0
 have c3:w.cell? ⟨b3,0,none⟩=some x3:=k3.cell 0
 have c4:w.cell? ⟨b4,0,none⟩=some x4:=k4.cell 0
 have z2:=k2.frozen
 have z3:=k3.frozen
 have z4:=k4.frozen
 refine callsD_of_wpS Tryz.func31 rfl fun c₀ cs hu=>?_
 apply wpS_seq
 apply wpS_region
 simp [wpOpsS,go_sem,recoverD,hu,Tryz.ntmps31,Exit.thenS]
 have hta:=fun t=>as_wrong t (.int .i64 k) w
 refine wpS_of_wp ?_
 simp only [Array.replicate_succ,Array.replicate_zero,List.push_toArray,List.append_toArray,List.nil_append,List.cons_append,List.setIfInBounds_toArray,List.set]
 go_wp2_with fail
 simp [bodyPostS,results,Tryz.results31,hu]
theorem catch_idle (b2 b3 b4:Nat) (w:World) :
  CallsD Tryz.prog 31 #[.pointer (some ⟨b2,0,none⟩),.pointer (some ⟨b3,0,none⟩),.pointer (some ⟨b4,0,none⟩)] .returning w fun e u' w'=>e=.returned (.tuple #[])∧u'=.returning∧w'=w:=by
 refine callsD_of_wpS Tryz.func31 rfl fun c₀ cs hu=>?_
 apply wpS_seq
 apply wpS_region
 simp [wpOpsS,go_sem,recoverD,hu,Tryz.ntmps31,Exit.thenS]
 have hta:=fun t=>as_nil t w
 refine wpS_of_wp ?_
 simp only [Array.replicate_succ,Array.replicate_zero,List.push_toArray,List.append_toArray,List.nil_append,List.cons_append,List.setIfInBounds_toArray,List.set]
 go_wp2_with fail
 cases c₀
 simp_all [bodyPostS,results,Tryz.results31]
structure Sh where
 args:Int
 kind:Nat
 name:Bool
 num:Bool
 body:Bool
structure Fo where
 name:Bool
 kind:Bool
 least:Int
 most:Int
 lb:Int
 mb:Int
 cases:Bool
section
variable {L:List Tok}
end
theorem Elems.pa1 {V:Vw} {x:Nd} {xs:List Value} (h:Elems V x 4 xs) (hl:0 < x.len):∃ nm t kn r,x=.pa nm t kn r:=by
 cases x with
 | nil=>simp [Nd.len] at hl
 | pa nm t kn r=>exact ⟨_,_,_,_,rfl⟩
 | ex=>exact absurd h.1 (by decide)
 | st=>exact absurd h.1 (by decide)
 | bl=>exact absurd h.1 (by decide)
 | ca=>exact absurd h.1 (by decide)
 | de=>exact absurd h.1 (by decide)
theorem nv_paI {V:Vw} {nm:ByteArray} {ty:Ty} {kn:Bool} {cs:Array Value} (h:Nv V 4 (.pa nm ty kn .nil) cs):cs=#[.string nm,.int .i64 ty.base,.int .i64 ty.bits,.string ty.name,.bool ty.opt,.bool ty.err,.bool kn]:=by
 obtain ⟨⟨_,r,e,h3⟩,_⟩:=h
 obtain rfl:r=[]:=h3
 rw [← Array.toArray_toList (xs:=cs),e]; rfl
theorem Nv.de1 {V:Vw} {x:Nd} {cs:Array Value} (h:Nv V 5 x cs):∃ fn nm ps ty op ty2 nm2 k ea eb b Ap cp A1 c1 A2 c2 Ab cb,x=.de fn nm ps ty (.ex op ty2 nm2 k ea eb .nil) b .nil∧cs=#[.bool fn,.string nm,.slice Ap ps.len cp,.int .i64 ty.base,.int .i64 ty.bits,.string ty.name,.bool ty.opt,.bool ty.err,.int .i64 op,.int .i64 ty2.base,.int .i64 ty2.bits,.string ty2.name,.bool ty2.opt,.bool ty2.err,.string nm2,.int .i64 k,.slice A1 ea.len c1,.slice A2 eb.len c2,.slice Ab b.len cb]∧Sl V (.slice Ap ps.len cp) ps 4∧Nv V 0 (.ex op ty2 nm2 k ea eb .nil) #[.int .i64 op,.int .i64 ty2.base,.int .i64 ty2.bits,.string ty2.name,.bool ty2.opt,.bool ty2.err,.string nm2,.int .i64 k,.slice A1 ea.len c1,.slice A2 eb.len c2]∧Sl V (.slice Ab b.len cb) b 1:=by
 obtain ⟨fn,nm,ps,ty,val,b,r,rfl⟩:=h.1.de1 (by rw [h.2]; decide)
 obtain rfl:r=.nil:=tl_one h.2
 obtain ⟨vps,ys,vb,rfl,hps,hval,hb⟩:=nv_deI h
 obtain ⟨Ap,cp,rfl,_⟩:=hps.lp
 obtain ⟨Ab,cb,rfl,_⟩:=hb.lp
 obtain rfl | ⟨op,ty2,nm2,k,ea,eb,r,rfl⟩:=hval.1.ex
 ·cases hval.2
 obtain rfl:r=.nil:=tl_one hval.2
 obtain ⟨va,vc,rfl,ha,hc⟩:=nv_exI hval
 obtain ⟨A1,c1,rfl,_⟩:=ha.lp
 obtain ⟨A2,c2,rfl,_⟩:=hc.lp
 exact ⟨fn,nm,ps,ty,op,ty2,nm2,k,ea,eb,b,Ap,cp,A1,c1,A2,c2,Ab,cb,rfl,rfl,hps,hval,hb⟩
end Go.Proofs.YtmmnhbhnjiajhaaGreatDoor.c
