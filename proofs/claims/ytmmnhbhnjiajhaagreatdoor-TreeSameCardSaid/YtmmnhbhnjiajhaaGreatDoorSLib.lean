/- Small words on worlds, on slices that read as given cells, and on searches: plain lemmas that the walks of this seat use. No condition. More words on worlds: what is owned stays owned in a grown world. No condition. Slices that read as lists of numbers. No condition. -/
import Derived.Test.YtmmnhbhnjiajhaaGreatDoorChecked
import Derived.WalkKit
import Derived.WalkLawsBesides
import Derived.WalkSpells
import Derived.BigGuardPart
import Derived.Deep.QuietTactic
import Derived.BigQuiet
import Derived.Lib.Hide
namespace Go.Proofs.YtmmnhbhnjiajhaaGreatDoor.c
open Go.RowKit
set_option linter.unusedVariables false
set_option linter.unusedSimpArgs false

structure Ext (w w':World):Prop where
 out:Below w.heap.size w w'
theorem Ext.refl (w:World):Ext w w:=⟨Below.refl _ _⟩
theorem Ext.trans {a b c:World} (h:Ext a b) (k:Ext b c):Ext a c:=⟨h.out.trans (k.out.mono h.out.size)⟩
theorem Ext.size {a b:World} (h:Ext a b):a.heap.size ≤ b.heap.size:=h.out.size
theorem Ext.alloc {a b:World} (h:Ext a b) (o:Obj):Ext a (b.alloc o):=⟨h.out.alloc h.size o⟩
theorem Ext.drew {a b:World} (h:Ext a b):Ext a b.drew:=⟨h.out.drew⟩
theorem Ext.drewN {a b:World} (h:Ext a b) (n:Nat):Ext a (b.drewN n):=⟨⟨h.out.os,h.out.tape,h.out.output,h.out.size,h.out.block⟩⟩
theorem Ext.setCell {a b:World} (h:Ext a b) {p:Addr} (hp:a.heap.size ≤ p.block) (u:Value):Ext a (b.setCell p u):=⟨h.out.setCell hp u⟩
theorem Ext.cell {a b:World} (h:Ext a b) {p:Addr} (hp:p.block < a.heap.size):b.cell? p=a.cell? p:=h.out.cell hp
theorem Ext.facts {a b:World} (h:Ext a b):(∀ k o,k < a.heap.size → b.cell? ⟨k,o,none⟩=a.cell? ⟨k,o,none⟩)∧(∀ k o,k < a.heap.size → b.frozen? ⟨k,o,none⟩=a.frozen? ⟨k,o,none⟩)∧a.heap.size ≤ b.heap.size :=
 ⟨fun k o hk=>h.out.cell (p:=⟨k,o,none⟩) hk,fun k o hk=>h.out.frozen (p:=⟨k,o,none⟩) hk,h.size⟩

theorem size_alloc (w:World) (o:Obj):(w.alloc o).heap.size=w.heap.size + 1:=by simp
theorem Ext.z0 {w w1:World} {o:Obj} (x:Ext (w.alloc o) w1):w.heap.size < w1.heap.size:=by
 have:=x.size
 simp at this
 omega

def Blk (w:World) (g:Nat) (t:TypeId) (cs:Array Value):Prop:=w.heap[g]?=some (.cells cs t (0,0))
section
variable {w w':World} {g:Nat} {t:TypeId} {cs:Array Value}
theorem Blk.lt (h:Blk w g t cs):g < w.heap.size:=by
 rcases Nat.lt_or_ge g w.heap.size with hlt | hge
 ·exact hlt
 ·unfold Blk at h; rw [Array.getElem?_eq_none hge] at h; cases h
theorem Blk.cell (h:Blk w g t cs) (i:Nat):w.cell? ⟨g,i,none⟩=cs[i]?:=cell_of_row w g i cs t (0,0) h
theorem Blk.frozen (h:Blk w g t cs) (i:Nat):w.frozen? ⟨g,i,none⟩=false:=by
 unfold Blk at h
 simp [World.frozen?,h]
theorem Blk.new (w:World) (t:TypeId) (cs:Array Value):Blk (w.alloc (.cells cs t)) w.heap.size t cs:=heap_alloc_new w _
theorem Blk.drew (h:Blk w g t cs):Blk w.drew g t cs:=h
theorem Blk.drewN (h:Blk w g t cs) (n:Nat):Blk (w.drewN n) g t cs:=h
theorem Blk.alloc (h:Blk w g t cs) (o:Obj):Blk (w.alloc o) g t cs:=(Below.heap_alloc w o g h.lt).trans h
theorem Blk.set_ (h:Blk w g t cs) (i:Nat) (u:Value):Blk (w.setCell ⟨g,i,none⟩ u) g t (cs.setIfInBounds i u):=by
 unfold Blk at h ⊢
 simp [World.setCell,Array.getElem?_modify,h]
theorem Blk.far (h:Blk w g t cs) {p:Addr} (hp:g ≠ p.block) (u:Value):Blk (w.setCell p u) g t cs:=(Below.heap_setCell w p u g hp).trans h
theorem Blk.ext (h:Blk w g t cs) (x:Ext w w'):Blk w' g t cs:=(x.out.block g h.lt).trans h
theorem Blk.row (h:Blk w g t cs) (cs':Array Value):Blk (w.setRow g cs') g t cs':=setRow_heap w g cs cs' t _ h
end
theorem Ext.setRow {a b:World} (h:Ext a b) {g:Nat} (hg:a.heap.size ≤ g) (cs:Array Value):Ext a (b.setRow g cs) :=
 ⟨h.out.trans ⟨rfl,rfl,rfl,by simp,fun k hk=>setRow_other b g k cs (by omega)⟩⟩
section
variable {P:Program} {w:World}
theorem wpList_store_row {ops:Array Oper} {rest:List Oper} {o:Oper} {a:Act} {Q:Exit → Act → World → Prop} (hgd:o.guard=none) (ty:TypeId) (x y:Operand) (ho:o.op=.store ty x y)
  (g:Nat) (hx:a.eval x=.pointer (some ⟨g,0,none⟩)) (t:TypeId) (cur cs:Array Value) (hg:Blk w g t cur) (hy:a.eval y=.agg cs) (hs:cs.size=cur.size)
  (h1:∀ v ∈ cs.toList,v.oneCell'=true) (hi:(P.info? ty).map (·.size)=some cs.size) (h:wpList P ops Q rest (a.put o.dst undef) (w.setRow g cs)):wpList P ops Q (o :: rest) a w:=by
 refine wpList_plain hgd fun K hK=>?_
 have hst:=run_storeCells_from (P:=P) g t cs.toList 0 cur w hg (by simp [hs]) h1
 simp only [List.take_zero,List.nil_append,Array.toArray_toList] at hst
 cases hq:P.info? ty with
 | none=>simp [hq] at hi
 | some i =>
  have hz:i.size=cs.size:=by simpa [hq] using hi
  unfold Oper.wp execOp
  simp only [ho,hx,hy]
  have:(Instr.storeAt ty (.pointer (some ⟨g,0,none⟩)) (.agg cs)).run P w=.ok () (w.setRow g cs):=by
   simp [Instr.storeAt,Instr.sureAddr,storeVar,Value.cells,sizeOf,typeInfo,hq,hz,hst]
  simp [this]
  exact hK _ _ h
end

def At (w:World) (A:Option Addr) (n sz:Nat) (c:Nat → Nat → Value):Prop :=
 0 < n → ∃ b off,A=some ⟨b,off,none⟩∧b < w.heap.size∧∀ i j,i < n → j < sz → w.cell? ⟨b,off + (i * sz + j),none⟩=some (c i j)
theorem At.ext {w w':World} {A:Option Addr} {n sz:Nat} {c:Nat → Nat → Value} (h:At w A n sz c) (x:Ext w w'):At w' A n sz c:=by
 intro hn
 obtain ⟨b,off,rfl,hb,hc⟩:=h hn
 exact ⟨b,off,rfl,Nat.lt_of_lt_of_le hb x.size,fun i j hi hj=>(x.cell (p:=⟨b,_,none⟩) hb).trans (hc i j hi hj)⟩
theorem At.nil (w:World) (A:Option Addr) (sz:Nat) (c:Nat → Nat → Value):At w A 0 sz c:=fun h=>absurd h (by omega)
theorem At.one {w:World} {A:Option Addr} {n:Nat} {c:Nat → Nat → Value} (h:At w A n 1 c) {k:Nat} (hk:k < n) :
  ∃ b off,A=some ⟨b,off,none⟩∧b < w.heap.size∧w.cell? ⟨b,off + k,none⟩=some (c k 0):=by
 obtain ⟨b,off,rfl,hb,hc⟩:=h (by omega)
 exact ⟨b,off,rfl,hb,by simpa using hc k 0 hk (by omega)⟩
theorem At.nine {w:World} {A:Option Addr} {n:Nat} {c:Nat → Nat → Value} (h:At w A n 9 c) {k:Nat} (hk:k < n) :
  ∃ b off,A=some ⟨b,off,none⟩∧b < w.heap.size∧w.cell? ⟨b,off + k * 9,none⟩=some (c k 0)∧w.cell? ⟨b,off + k * 9 + 1,none⟩=some (c k 1)∧w.cell? ⟨b,off + k * 9 + 2,none⟩=some (c k 2) ∧
   w.cell? ⟨b,off + k * 9 + 3,none⟩=some (c k 3)∧w.cell? ⟨b,off + k * 9 + 4,none⟩=some (c k 4)∧w.cell? ⟨b,off + k * 9 + 5,none⟩=some (c k 5)∧w.cell? ⟨b,off + k * 9 + 6,none⟩=some (c k 6) ∧
   w.cell? ⟨b,off + k * 9 + 7,none⟩=some (c k 7)∧w.cell? ⟨b,off + k * 9 + 8,none⟩=some (c k 8):=by
 obtain ⟨b,off,rfl,hb,hc⟩:=h (by omega)
 refine ⟨b,off,rfl,hb,?_,?_,?_,?_,?_,?_,?_,?_,?_⟩
 ·exact hc k 0 hk (by omega)
 ·exact hc k 1 hk (by omega)
 ·exact hc k 2 hk (by omega)
 ·exact hc k 3 hk (by omega)
 ·exact hc k 4 hk (by omega)
 ·exact hc k 5 hk (by omega)
 ·exact hc k 6 hk (by omega)
 ·exact hc k 7 hk (by omega)
 ·exact hc k 8 hk (by omega)

theorem Ext.grown {a b b':World} {row:Option Nat} (h:Ext a b) (hg:b.grownBy b' row) (hr:∀ k,row=some k → a.heap.size ≤ k):Ext a b':=⟨h.out.grown hg h.size hr⟩
theorem ret_int {k:IntKind} {a b:Int} (h:a=b):Ending.returned (.int k a)=.returned (.int k b):=by rw [h]
theorem ret_str {a b:List UInt8} (h:a=b):Ending.returned (.string ⟨a.toArray⟩)=.returned (.string ⟨b.toArray⟩):=by rw [h]
theorem ret_bool {a b:Bool} (h:a=b):Ending.returned (.bool a)=.returned (.bool b):=by rw [h]
def Enters (K:Nat):Prop:=∀ (a:Array Value) (w:World),Sem.run Tryz.prog (callFunc K a) w=.ok (.enter K a) w
theorem Enters.of {K:Nat} {fn:Func} (hf:Tryz.prog.funcs[K]?=some fn) (hn:(fn.name == "runtime.NumGoroutine")=false) (hb:fn.body.isNone=false):Enters K:=by
 intro a w
 have hn':¬ fn.name = "runtime.NumGoroutine" := by simpa using hn
 have hb':¬ fn.body=none:=by
  intro h
  rw [h] at hb
  cases hb
 simp [callFunc,hf,hn',hb']
def IntsAt (w:World) (v:Value) (L:List Int):Prop:=∃ A cap,v=.slice A L.length cap∧At w A L.length 1 (fun i _=>.int .i64 (L.getD i 0))
theorem IntsAt.ext {w w':World} {v:Value} {L:List Int} (h:IntsAt w v L) (x:Ext w w'):IntsAt w' v L:=by
 obtain ⟨A,cap,rfl,h⟩:=h
 exact ⟨A,cap,rfl,h.ext x⟩
theorem IntsAt.nil (w:World):IntsAt w (.slice none 0 0) []:=⟨none,0,rfl,At.nil _ _ _ _⟩
theorem exA {a b:World} (h:Ext a b:=by (with_reducible repeat first | exact Ext.refl _ | assumption | refine Ext.alloc ?_ _ | refine Ext.drewN ?_ _ | refine Ext.drew ?_ | refine Ext.trans ?_ (by assumption))):Ext a b:=h
theorem exR {a b:World} (h:Ext a b:=by (repeat (first | (with_reducible exact Ext.refl _) | (with_reducible assumption) | (with_reducible refine Ext.alloc ?_ _) | (with_reducible refine Ext.setRow ?_ ?_ _; rotate_left; first | exact Nat.le_refl _ | omega | (simp; done) | (simp; omega)) | (with_reducible refine Ext.trans ?_ (by with_reducible assumption))))):Ext a b:=h
theorem exL {a b:World} (h:Ext a b:=by (repeat (first | (with_reducible exact Ext.refl _) | (with_reducible assumption) | (with_reducible refine Ext.alloc ?_ _) | (with_reducible refine Ext.drewN ?_ _) | (with_reducible refine Ext.drew ?_) | (with_reducible refine Ext.setCell ?_ ?_ _; rotate_left; first | assumption | (simp; done) | (simp; omega)) | (with_reducible refine Ext.trans ?_ (by with_reducible assumption))))):Ext a b:=h
theorem exO {a b:World} (h:Ext a b:=by (first | ((repeat (first | (with_reducible exact Ext.refl _) | (with_reducible assumption) | (with_reducible refine Ext.alloc ?_ _) | (with_reducible refine Ext.drewN ?_ _) | (with_reducible refine Ext.drew ?_) | (with_reducible refine Ext.setCell ?_ ?_ _; rotate_left; first | assumption | (simp; done) | (simp; omega)) | (with_reducible refine Ext.trans ?_ (by with_reducible assumption)))); done) | (repeat (first | exact Ext.refl _ | assumption | refine Ext.alloc ?_ _ | refine Ext.drewN ?_ _ | refine Ext.drew ?_ | refine Ext.setCell ?_ (by first | assumption | (simp; done) | (simp; omega)) _ | refine Ext.trans ?_ (by assumption))))):Ext a b:=h
end Go.Proofs.YtmmnhbhnjiajhaaGreatDoor.c
