/- Contracts of the reference's small functions of a run: IntOf, one, wrapped, stop, number. Conditions: right types. -/
import Derived.Test.YtknaemlnhediaaaGreatDoorGconv
import Derived.Test.YtknaemlnhediaaaGreatDoorRari
import Derived.Test.YtknaemlnhediaaaGreatDoorRvr
namespace Go.Proofs.YtknaemlnhediaaaGreatDoor.c
open Go.RowKit
set_option linter.unusedVariables false
set_option maxRecDepth 100000
set_option maxHeartbeats 1600000
set_option linter.unusedSimpArgs false
theorem hintOf_any (t:Ty) (w:World) :
  Calls Tryz.prog 247 #[.agg #[.int .i64 t.base,.int .i64 t.bits,.string t.name,.bool t.opt,.bool t.err]] w fun r w'=>r=.returned (.agg #[.bool (t.base == 3),.int .i64 t.bits])∧Ext w w':=by
 go_enter Tryz.func247,Tryz.ntmps247
 go_wp2
 exact bodyPost_ret (v:=.agg #[.bool (t.base == 3),.int .i64 t.bits]) (by simp [results,Tryz.results247,go_sem]) rfl ⟨rfl,exA⟩
theorem hone_any (b:Bool) (w:World):Calls Tryz.prog 114 #[.bool b] w fun e w'=>e=.returned (.int .i64 (b01 b))∧w=w':=by
 cases b
 all_goals
  go_enter Tryz.func114,Tryz.ntmps114
  go_wp2
  go_ret
  exact ⟨rfl,rfl⟩
theorem hwrapped_any (t:Ty) (n:Int) (w:World) (h:rowT t) :
  Calls Tryz.prog 209 #[.agg #[.int .i64 t.base,.int .i64 t.bits,.string t.name,.bool t.opt,.bool t.err],.int .i64 n] w fun e w'=>e=.returned (.int .i64 (wrapT t n))∧Ext w w':=by
 rcases h with h | h | ⟨h,h1,h2⟩
 ·have HR:=Lib.hid (wrapT_void (n:=n) h)
  have n0:(t.base == 0)=true:=by rw [h]; rfl
  go_enter Tryz.func209,Tryz.ntmps209
  go_wp2_with fail
  go_ret
  exact ⟨ret_int HR.out.symm,exA⟩
 ·have HR:=Lib.hid (wrapT_bool (n:=n) h)
  have n0:(t.base == 0)=false:=by rw [h]; rfl
  have n1:(t.base == 1)=true:=by rw [h]; rfl
  have HE:Hid (b01 (n != 0)=if n=0 then 0 else 1):=by
   unfold Hid b01
   by_cases e:n=0
   ·rw [e]; rfl
   ·rw [if_pos (by rw [bne_iff_ne]; exact e),if_neg e]
  go_enter Tryz.func209,Tryz.ntmps209
  go_wp2_with (first
   | (go_at_call 114; refine (hone_any _ _).mono ?_; rintro r w' ⟨rfl,rfl⟩))
  go_ret
  exact ⟨ret_int (by rw [HR.out,HE.out]),exA⟩
 ·have HR:=Lib.hid (wrapT_int (n:=n) h)
  have n0:(t.base == 0)=false:=by rw [beq_eq_false_iff_ne]; omega
  have n1:(t.base == 1)=false:=by rw [beq_eq_false_iff_ne]; omega
  go_enter Tryz.func209,Tryz.ntmps209
  go_wp2_with (first
   | (go_at_call 247; refine (hintOf_any t _).mono ?_; rintro r w1 ⟨rfl,x1⟩; have y1:=x1.facts; have z1:=x1.z0)
   | (go_at_call 256; refine (rWrap_any (t.base == 3) t.bits n _ h1 h2).mono ?_; rintro r w2 ⟨rfl,x2⟩; have y2:=x2.facts))
  go_ret
  exact ⟨ret_int HR.out.symm,exA⟩
def hmC (A:Option Addr) (len cap:Nat) (ck:Bool) (s e y:Int) (B:Option Addr) (bn bc:Nat):Array Value:=#[.slice A len cap,.bool ck,.int .i64 s,.int .i64 e,.int .i64 y,.slice B bn bc]
def HMem (w:World) (m:Nat) (A:Option Addr) (len cap:Nat) (ck:Bool) (s e y:Int) (B:Option Addr) (bn bc:Nat):Prop:=Blk w m 124 (hmC A len cap ck s e y B bn bc)
section
variable {w w':World} {m:Nat} {A:Option Addr} {len cap:Nat} {ck:Bool} {s e y:Int} {B:Option Addr} {bn bc:Nat}
theorem HMem.facts (h:HMem w m A len cap ck s e y B bn bc):m < w.heap.size∧w.cell? ⟨m,0,none⟩=some (.slice A len cap)∧w.cell? ⟨m,1,none⟩=some (.bool ck)∧w.cell? ⟨m,2,none⟩=some (.int .i64 s)∧w.cell? ⟨m,3,none⟩=some (.int .i64 e) ∧
  w.cell? ⟨m,4,none⟩=some (.int .i64 y)∧w.cell? ⟨m,5,none⟩=some (.slice B bn bc)∧(∀ i,w.frozen? ⟨m,i,none⟩=false):=by
 refine ⟨Blk.lt h,?_,?_,?_,?_,?_,?_,fun i=>Blk.frozen h i⟩ <;> exact (Blk.cell h _).trans rfl
theorem HMem.ext (h:HMem w m A len cap ck s e y B bn bc) (x:Ext w w'):HMem w' m A len cap ck s e y B bn bc:=Blk.ext h x
theorem HMem.steps (h:HMem w m A len cap ck s e y B bn bc) (u:Int):HMem (w.setCell ⟨m,2,none⟩ (.int .i64 u)) m A len cap ck u e y B bn bc:=Blk.set_ h 2 _
theorem HMem.end_ (h:HMem w m A len cap ck s e y B bn bc) (u:Int):HMem (w.setCell ⟨m,3,none⟩ (.int .i64 u)) m A len cap ck s u y B bn bc:=Blk.set_ h 3 _
theorem HMem.why (h:HMem w m A len cap ck s e y B bn bc) (u:Int):HMem (w.setCell ⟨m,4,none⟩ (.int .i64 u)) m A len cap ck s e u B bn bc:=Blk.set_ h 4 _
end
theorem own_grown {w w':World} (x:Ext w w') (row:Option Nat):w.grownBy w' row:=⟨x.out.os,x.out.tape,x.out.output,x.out.size,fun i hi _=>x.out.block i hi⟩
theorem set_grown (w:World) (gn k:Nat) (u:Value):w.grownBy (w.setCell ⟨gn,k,none⟩ u) (some gn):=⟨rfl,rfl,rfl,by simp,fun i hi hne=>Below.heap_setCell w _ _ i (fun e=>hne (by rw [e]))⟩
theorem grow_trans {a b c:World} {r:Option Nat} (h:a.grownBy b r) (k:b.grownBy c r):a.grownBy c r :=
 ⟨k.os.trans h.os,k.tape.trans h.tape,k.output.trans h.output,Nat.le_trans h.size k.size,fun i hi hne=>(k.block i (Nat.lt_of_lt_of_le hi h.size) hne).trans (h.block i hi hne)⟩
theorem hstop_t (m:Nat) (A:Option Addr) (len cap:Nat) (s:Int) (B:Option Addr) (bn bc:Nat) (y:Int) (w:World) (h:HMem w m A len cap true s 0 0 B bn bc) :
  Calls Tryz.prog 210 #[.pointer (some ⟨m,0,none⟩),.int .i64 y] w fun e w'=>e=.returned (.bool true)∧HMem w' m A len cap true s 1 y B bn bc∧w.grownBy w' (some m):=by
 obtain ⟨hm,c0,c1,c2,c3,c4,c5,fz⟩:=h.facts
 have HH:=Lib.hid h
 clear h
 go_enter Tryz.func210,Tryz.ntmps210
 go_wp2_with fail
 go_ret
 exact ⟨rfl,(HH.out.end_ 1).why y,grow_trans (set_grown _ _ _ _) (set_grown _ _ _ _)⟩
theorem hstop_f (m:Nat) (A:Option Addr) (len cap:Nat) (s:Int) (B:Option Addr) (bn bc:Nat) (y:Int) (w:World) (h:HMem w m A len cap false s 0 0 B bn bc) :
  Calls Tryz.prog 210 #[.pointer (some ⟨m,0,none⟩),.int .i64 y] w fun e w'=>e=.returned (.bool false)∧w=w':=by
 obtain ⟨hm,c0,c1,c2,c3,c4,c5,fz⟩:=h.facts
 clear h
 go_enter Tryz.func210,Tryz.ntmps210
 go_wp2_with fail
 go_ret
 exact ⟨rfl,rfl⟩
def HNum (w:World) (m:Nat) (A:Option Addr) (len cap:Nat) (ck:Bool) (s:Int) (B:Option Addr) (bn bc:Nat) (q:Int × Int) (e:Ending) (w':World):Prop :=
 (∃ n,e=.returned (.int .i64 n)∧(q.2=0 → n=q.1))∧HMem w' m A len cap ck s (if q.2=0 then 0 else 1) q.2 B bn bc∧w.grownBy w' (some m)
theorem hNum_ok {w w':World} {m:Nat} {A:Option Addr} {len cap:Nat} {ck:Bool} {s:Int} {B:Option Addr} {bn bc:Nat} {q:Int × Int} {n:Int} (hq:q=(n,0)) (h:HMem w' m A len cap ck s 0 0 B bn bc) (x:w.grownBy w' (some m)):HNum w m A len cap ck s B bn bc q (.returned (.int .i64 n)) w':=by
 subst hq
 exact ⟨⟨n,rfl,fun _=>rfl⟩,h,x⟩
theorem hNum_no {w w':World} {m:Nat} {A:Option Addr} {len cap:Nat} {ck:Bool} {s:Int} {B:Option Addr} {bn bc:Nat} {q:Int × Int} {n y:Int} (hq:q.2=y) (hy:y ≠ 0) (h:HMem w' m A len cap ck s 1 y B bn bc) (x:w.grownBy w' (some m)):HNum w m A len cap ck s B bn bc q (.returned (.int .i64 n)) w':=by
 subst hq
 exact ⟨⟨n,rfl,fun e=>absurd e hy⟩,by rw [if_neg hy]; exact h,x⟩
end Go.Proofs.YtknaemlnhediaaaGreatDoor.c
