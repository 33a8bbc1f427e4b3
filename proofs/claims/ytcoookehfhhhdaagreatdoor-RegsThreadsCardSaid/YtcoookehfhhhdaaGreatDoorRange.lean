/- Ranging over maps that the call made itself, in a round that reads them: each entry comes once, in whatever order. No condition. -/
import Derived.Test.YtcoookehfhhhdaaGreatDoorLib
import Derived.Lib.RowBridge
import Derived.Test.YtcoookehfhhhdaaGreatDoorMap
import Derived.Maps.RangeWalk
namespace Go.Proofs.YtcoookehfhhhdaaGreatDoor.c
open Go.RowKit
open Go.ChangeMaps (setBlock)
open Go.Maps (Keyed)
set_option linter.unusedVariables false
set_option linter.unusedSimpArgs false

structure RngAt (w:World) (b r:Nat) (V:Value → Option Value) (L:Value → Prop) (c:Nat):Prop where
 out:∃ es clock since seen c0,w.heap[b]?=some (.map es clock)∧w.heap[r]?=some (.mapIter (some b) since seen c0)∧es.toList.Pairwise (fun x y=>x.key ≠ y.key) ∧
  (∀ e ∈ es.toList,V e.key=some e.val)∧(es.toList.map (·.born)).Nodup∧(∀ x ∈ es.toList,x.born < since)∧(leftOf es seen).size=c ∧
  (∀ x ∈ es.toList,L x.key ↔ seen.contains x.born=false)∧(∀ x,L x → ∃ e ∈ es.toList,e.key=x)∧since ≤ c0∧since ≤ clock
theorem RngAt.lt {w:World} {b r c:Nat} {V:Value → Option Value} {L:Value → Prop} (h:RngAt w b r V L c):b < w.heap.size∧r < w.heap.size∧r ≠ b:=by
 obtain ⟨es,clock,since,seen,c0,hb,hr,_⟩:=h
 refine ⟨(Array.getElem?_eq_some_iff.1 hb).1,(Array.getElem?_eq_some_iff.1 hr).1,fun e=>?_⟩
 rw [e,hb] at hr
 cases hr
theorem RngAt.left_eq {w:World} {b r c:Nat} {V:Value → Option Value} {L:Value → Prop} (h:RngAt w b r V L c):w.rangeLeft b r=c:=by
 obtain ⟨es,clock,since,seen,c0,hb,hr,_,_,_,_,hc,_⟩:=h
 simp only [World.rangeLeft,hb,hr]
 exact hc
theorem RngAt.keep {w w':World} {b r c:Nat} {V:Value → Option Value} {L:Value → Prop} (h:RngAt w b r V L c) (e1:w'.heap[b]?=w.heap[b]?) (e2:w'.heap[r]?=w.heap[r]?):RngAt w' b r V L c:=by
 obtain ⟨es,clock,since,seen,c0,hb,hr,rest⟩:=h
 exact ⟨es,clock,since,seen,c0,e1.trans hb,e2.trans hr,rest⟩
theorem RngAt.ext {w w':World} {b r c:Nat} {V:Value → Option Value} {L:Value → Prop} (h:RngAt w b r V L c) (x:Ext w w'):RngAt w' b r V L c :=
 h.keep (x.out.block b h.lt.1) (x.out.block r h.lt.2.1)
theorem RngAt.setCell {w:World} {b r c:Nat} {V:Value → Option Value} {L:Value → Prop} (h:RngAt w b r V L c) {a:Addr} (h1:b ≠ a.block) (h2:r ≠ a.block) (u:Value):RngAt (w.setCell a u) b r V L c :=
 h.keep (Below.heap_setCell w a u b h1) (Below.heap_setCell w a u r h2)
theorem MapAt.range {w:World} {kt t et:TypeId} {b n:Nat} {V:Value → Option Value} (h:MapAt w kt b n V) (ht:Tryz.prog.underlying t=some (.map kt et)) :
  ∃ w' c,(Instr.range t (.map (some b))).run Tryz.prog w=.ok (.pointer (some ⟨w.heap.size,0,none⟩)) w'∧RngAt w' b w.heap.size V (fun x=>V x ≠ none) c∧w.grownBy w' none∧w'.heap.size=w.heap.size + 1:=by
 have hlt:=h.lt
 obtain ⟨es,clock,hb,hs,hk,hp,hv,hn,hb1,hb2⟩:=h
 refine ⟨_,_,run_range_map w t kt et b es clock ht hb,⟨es,clock,clock,#[],clock,((MapKept.heap_alloc w _).2 b hlt).trans hb,(MapKept.heap_alloc w _).1,hp,hv,hb2,hb1,rfl,?_,?_,Nat.le_refl _,Nat.le_refl _⟩,World.grownBy_alloc w _ none,by simp⟩
 ·intro x hx
  simp [hv x hx]
 ·intro x hx
  rcases Classical.em (∃ e ∈ es.toList,e.key=x) with he | he
  ·exact he
  ·exact absurd (hn x fun e h1 h2=>he ⟨e,h1,h2⟩) hx
theorem RngAt.next {w:World} {b r c:Nat} {V:Value → Option Value} {L:Value → Prop} (h:RngAt w b r V L c) (ty:TypeId) :
  (c=0∧(∀ x,¬ L x)∧(Instr.next (.pointer (some ⟨r,0,none⟩)) false ty).run Tryz.prog w=.ok (.tuple #[.bool false]) w) ∨
  ∃ key v w' c',L key∧V key=some v∧(Instr.next (.pointer (some ⟨r,0,none⟩)) false ty).run Tryz.prog w=.ok (.tuple #[.bool true,key,v]) w' ∧
   RngAt w' b r V (fun x=>L x∧x ≠ key) c'∧c' < c∧w.grownBy w' (some r)∧w'.heap.size=w.heap.size∧(Instr.entry (.pointer (some ⟨r,0,none⟩))).run Tryz.prog w'=.ok (.tuple #[key,v]) w':=by
 have hne:=h.lt.2.2
 obtain ⟨es,clock,since,seen,c0,hb,hr,hp,hv,hnd,hold,rfl,hl1,hl2,hsc,hsk⟩:=h
 rcases run_next_at (P:=Tryz.prog) w ty r b since c0 seen es clock hr hb hold hsc with ⟨h0,hrun⟩ | ⟨e,he,w1,hal,hrun⟩
 ·refine .inl ⟨h0,fun x hx=>?_,hrun⟩
  obtain ⟨e,h1,rfl⟩:=hl2 x hx
  have:=(hl1 e h1).1 hx
  rw [all_seen es seen h0 e h1] at this
  cases this
 ·obtain ⟨hem,hes⟩:=mem_left he
  have hr1:w1.heap[r]?=some (.mapIter (some b) since seen c0):=by rcases hal with rfl | rfl <;> exact hr
  have hb1:w1.heap[b]?=some (.map es clock):=by rcases hal with rfl | rfl <;> exact hb
  have hset:=MapKept.heap_set (o':=.mapIter (some b) since (seen.push e.born) clock) hr1
  have hb':(setBlock w1 r (.mapIter (some b) since (seen.push e.born) clock)).heap[b]?=some (.map es clock):=(hset.2 b (fun e1=>hne e1.symm)).trans hb1
  refine .inr ⟨e.key,e.val,_,_,(hl1 e hem).2 hes,hv e hem,hrun,
   ⟨es,clock,since,seen.push e.born,clock,hb',hset.1,hp,hv,hnd,hold,rfl,fun x hx=>?_,fun x hx=>hl2 x hx.1,hsk,hsk⟩,left_shrinks es seen e he,?_,?_,
   run_entry_at _ r b since seen es clock e hset.1 hb' hem hnd⟩
  ·rw [contains_push]
   have key:x.key ≠ e.key ↔ (x.born == e.born)=false:=by
    constructor
    ·intro h1
     cases h2:x.born == e.born
     ·rfl
     ·obtain rfl:=born_inj hnd hx hem (eq_of_beq h2)
      exact absurd rfl h1
    ·intro h1 h2
     obtain rfl:=entry_eq_of_key hp hx hem h2
     simp at h1
   rw [key,hl1 x hx]
   cases seen.contains x.born <;> cases (x.born == e.born) <;> simp
  ·rcases hal with rfl | rfl <;> exact ⟨rfl,rfl,rfl,by simp [setBlock],fun i _ hi=>hset.2 i (fun e1=>hi (by rw [e1]))⟩
  ·rcases hal with rfl | rfl <;> simp [setBlock]
section
variable {w:World} {ops:Array Oper} {rest:List Oper} {o:Oper} {a:Act} {Q:Exit → Act → World → Prop}
theorem wpList_range_at (hg:o.guard=none) (m:Operand) (t:TypeId) (hop:o.op=Op.range t m) {kt et:TypeId} (ht:Tryz.prog.underlying t=some (.map kt et)) {b n:Nat} {V:Value → Option Value} (h:MapAt w kt b n V) (hm:a.eval m=.map (some b))
  (hK:∀ w' c,RngAt w' b w.heap.size V (fun x=>V x ≠ none) c → w.grownBy w' none → w'.heap.size=w.heap.size + 1 → wpList Tryz.prog ops Q rest (a.put o.dst (.pointer (some ⟨w.heap.size,0,none⟩))) w') :
  wpList Tryz.prog ops Q (o :: rest) a w:=by
 refine wpList_plain hg fun K' hK'=>?_
 obtain ⟨w',c,hrun,r1,r2,r3⟩:=h.range ht
 unfold Oper.wp
 simp [execOp,hop,hm,hrun,Result.andThen]
 exact hK' _ _ (hK w' c r1 r2 r3)
theorem wpList_next_at (hg:o.guard=none) (it:Operand) (hop:o.op=Op.next it false) {b r c:Nat} {V:Value → Option Value} {L:Value → Prop} (hit:a.eval it=.pointer (some ⟨r,0,none⟩)) (h:RngAt w b r V L c)
  (hDone:c=0 → (∀ x,¬ L x) → wpList Tryz.prog ops Q rest (a.put o.dst (.tuple #[.bool false])) w)
  (hMore:∀ key v w' c',L key → V key=some v → RngAt w' b r V (fun x=>L x∧x ≠ key) c' → c' < c → w.grownBy w' (some r) → w'.heap.size=w.heap.size → (Instr.entry (.pointer (some ⟨r,0,none⟩))).run Tryz.prog w'=.ok (.tuple #[key,v]) w' → wpList Tryz.prog ops Q rest (a.put o.dst (.tuple #[.bool true,key,v])) w') :
  wpList Tryz.prog ops Q (o :: rest) a w:=by
 refine wpList_plain hg fun K' hK'=>?_
 unfold Oper.wp
 rcases h.next o.type with ⟨h0,hl,hrun⟩ | ⟨key,v,w',c',hl,hv,hrun,hrg,hlt,hgr,hsz,hen⟩
 ·simp [execOp,hop,hit,hrun,Result.andThen]
  exact hK' _ _ (hDone h0 hl)
 ·simp [execOp,hop,hit,hrun,Result.andThen]
  exact hK' _ _ (hMore key v w' c' hl hv hrg hlt hgr hsz hen)
end
theorem MapAt.count {w:World} {kt:TypeId} {b n:Nat} {V:Value → Option Value} (h:MapAt w kt b n V):∃ es clock,w.heap[b]?=some (.map es clock)∧es.size ≤ n∧(1 < es.size ↔ ∃ x y,x ≠ y∧V x ≠ none∧V y ≠ none):=by
 obtain ⟨es,clock,hb,hs,hk,hp,hv,hn,hb1,hb2⟩:=h
 refine ⟨es,clock,hb,hs,?_,?_⟩
 ·intro h1
  rw [List.pairwise_iff_getElem] at hp
  refine ⟨_,_,hp 0 1 (by simpa using by omega) (by simpa using h1) (by omega),?_,?_⟩
  ·rw [hv _ (List.getElem_mem _)]; simp
  ·rw [hv _ (List.getElem_mem _)]; simp
 ·rintro ⟨x,y,hne,hx,hy⟩
  have who:∀ x,V x ≠ none → ∃ e ∈ es.toList,e.key=x:=fun x hx=>by
   rcases Classical.em (∃ e ∈ es.toList,e.key=x) with he | he
   ·exact he
   ·exact absurd (hn x fun e h1 h2=>he ⟨e,h1,h2⟩) hx
  obtain ⟨e,h1,rfl⟩:=who x hx
  obtain ⟨f,h2,rfl⟩:=who y hy
  obtain ⟨i,hi,rfl⟩:=List.getElem_of_mem h1
  obtain ⟨j,hj,rfl⟩:=List.getElem_of_mem h2
  have:i ≠ j:=fun e=>hne (by subst e; rfl)
  simp at hi hj
  omega
def RowAt (w:World) (g:Nat) (t:TypeId) (n:Nat) (F:Nat → Value):Prop:=∃ cs:Array Value,Blk w g t cs∧cs.size=n∧∀ j,j < n → cs[j]?=some (F j)
section
variable {w w':World} {g n:Nat} {t:TypeId} {F:Nat → Value}
theorem RowAt.lt (h:RowAt w g t n F):g < w.heap.size:=by
 obtain ⟨cs,hb,_⟩:=h
 exact hb.lt
theorem RowAt.cell (h:RowAt w g t n F) {j:Nat} (hj:j < n):w.cell? ⟨g,j,none⟩=some (F j):=by
 obtain ⟨cs,hb,_,hc⟩:=h
 rw [hb.cell,hc j hj]
theorem RowAt.frozen (h:RowAt w g t n F) (j:Nat):w.frozen? ⟨g,j,none⟩=false:=by
 obtain ⟨cs,hb,_⟩:=h
 exact hb.frozen j
theorem RowAt.ext (h:RowAt w g t n F) (x:Ext w w'):RowAt w' g t n F:=by
 obtain ⟨cs,hb,r⟩:=h
 exact ⟨cs,hb.ext x,r⟩
theorem RowAt.grown {row:Option Nat} (h:RowAt w g t n F) (x:w.grownBy w' row) (hne:some g ≠ row):RowAt w' g t n F:=by
 obtain ⟨cs,hb,r⟩:=h
 exact ⟨cs,(x.block g hb.lt hne).trans hb,r⟩
theorem RowAt.far (h:RowAt w g t n F) {p:Addr} (hp:g ≠ p.block) (u:Value):RowAt (w.setCell p u) g t n F:=by
 obtain ⟨cs,hb,r⟩:=h
 exact ⟨cs,hb.far hp u,r⟩
theorem RowAt.set_ (h:RowAt w g t n F) {F':Nat → Value} {i:Nat} {u:Value} (hF:∀ j,j < n → F' j=if j=i then u else F j):RowAt (w.setCell ⟨g,i,none⟩ u) g t n F':=by
 obtain ⟨cs,hb,hs,hc⟩:=h
 refine ⟨_,hb.set_ i u,by simpa using hs,fun j hj=>?_⟩
 rw [hF j hj,Array.getElem?_setIfInBounds]
 by_cases e:i=j
 ·subst e
  simp [hs,hj]
 ·rw [if_neg e,if_neg (fun e2=>e e2.symm)]
  exact hc j hj
theorem RowAt.same (h:RowAt w g t n F) {F':Nat → Value} (hF:∀ j,j < n → F' j=F j):RowAt w g t n F':=by
 obtain ⟨cs,hb,hs,hc⟩:=h
 exact ⟨cs,hb,hs,fun j hj=>by rw [hF j hj]; exact hc j hj⟩
theorem RowAt.made (w:World) (t:TypeId) (z:Value) (n:Nat):RowAt (w.alloc (.cells (madeCells #[z] n) t)) w.heap.size t n (fun _=>z):=by
 refine ⟨_,Blk.new _ _ _,size_madeCells _ _,fun j hj=>?_⟩
 simp [madeCells,hj,Nat.mod_one]
end
end Go.Proofs.YtcoookehfhhhdaaGreatDoor.c
