/- Register code in memory, and what is right of an instruction, told plainly. No condition. Values in memory: lists of them, and rows of values that a run writes. No condition. -/
import Derived.Test.YtknaemlnhediaaaGreatDoorAri
import Derived.Test.YtknaemlnhediaaaGreatDoorData
import Derived.Deep.MidRow
import Derived.Laws.ResultCell
namespace Go.Proofs.YtknaemlnhediaaaGreatDoor.c
open Go.RowKit
set_option linter.unusedVariables false
set_option linter.unusedSimpArgs false

def rgC (x:Rg):Nat → Value
 | 0=>.int .i64 x.op
 | 1=>.int .i64 x.d
 | 2=>.int .i64 x.a
 | 3=>.int .i64 x.b
 | 4=>.int .i64 x.ty.base
 | 5=>.int .i64 x.ty.bits
 | 6=>.string x.ty.name
 | 7=>.bool x.ty.opt
 | 8=>.bool x.ty.err
 | 9=>.string x.name
 | _=>.slice x.A x.args.length x.cap
def rfC (f:Rf):Nat → Value
 | 0=>.string f.name
 | 1=>.int .i64 f.params
 | 2=>.int .i64 f.regs
 | 3=>.int .i64 f.ty.base
 | 4=>.int .i64 f.ty.bits
 | 5=>.string f.ty.name
 | 6=>.bool f.ty.opt
 | 7=>.bool f.ty.err
 | _=>.slice f.A f.code.length f.cap
def NumsAt (w:World) (A:Option Addr) (l:List Int):Prop:=At w A l.length 1 (fun i _=>.int .i64 (l.getD i 0))
structure RgAt (w:World) (A:Option Addr) (l:List Rg):Prop where
 top:At w A l.length 11 (fun i j=>rgC (l.getD i default) j)
 sub:∀ x,x ∈ l → NumsAt w x.A x.args
structure RfAt (w:World) (A:Option Addr) (l:List Rf):Prop where
 top:At w A l.length 9 (fun i j=>rfC (l.getD i default) j)
 sub:∀ f,f ∈ l → RgAt w f.A f.code
theorem NumsAt.ext {w w':World} {A:Option Addr} {l:List Int} (h:NumsAt w A l) (x:Ext w w'):NumsAt w' A l:=At.ext h x
theorem RgAt.ext {w w':World} {A:Option Addr} {l:List Rg} (h:RgAt w A l) (x:Ext w w'):RgAt w' A l:=⟨At.ext h.top x,fun f hf=>(h.sub f hf).ext x⟩
theorem RfAt.ext {w w':World} {A:Option Addr} {l:List Rf} (h:RfAt w A l) (x:Ext w w'):RfAt w' A l:=⟨At.ext h.top x,fun f hf=>(h.sub f hf).ext x⟩
theorem At.eleven {w:World} {A:Option Addr} {n:Nat} {c:Nat → Nat → Value} (h:At w A n 11 c) {k:Nat} (hk:k < n) :
  ∃ b off,A=some ⟨b,off,none⟩∧b < w.heap.size∧w.cell? ⟨b,off + k * 11,none⟩=some (c k 0)∧w.cell? ⟨b,off + k * 11 + 1,none⟩=some (c k 1)∧w.cell? ⟨b,off + k * 11 + 2,none⟩=some (c k 2) ∧
   w.cell? ⟨b,off + k * 11 + 3,none⟩=some (c k 3)∧w.cell? ⟨b,off + k * 11 + 4,none⟩=some (c k 4)∧w.cell? ⟨b,off + k * 11 + 5,none⟩=some (c k 5)∧w.cell? ⟨b,off + k * 11 + 6,none⟩=some (c k 6) ∧
   w.cell? ⟨b,off + k * 11 + 7,none⟩=some (c k 7)∧w.cell? ⟨b,off + k * 11 + 8,none⟩=some (c k 8)∧w.cell? ⟨b,off + k * 11 + 9,none⟩=some (c k 9)∧w.cell? ⟨b,off + k * 11 + 10,none⟩=some (c k 10):=by
 obtain ⟨b,off,rfl,hb,hc⟩:=h (by omega)
 refine ⟨b,off,rfl,hb,?_,?_,?_,?_,?_,?_,?_,?_,?_,?_,?_⟩
 ·exact hc k 0 hk (by omega)
 ·exact hc k 1 hk (by omega)
 ·exact hc k 2 hk (by omega)
 ·exact hc k 3 hk (by omega)
 ·exact hc k 4 hk (by omega)
 ·exact hc k 5 hk (by omega)
 ·exact hc k 6 hk (by omega)
 ·exact hc k 7 hk (by omega)
 ·exact hc k 8 hk (by omega)
 ·exact hc k 9 hk (by omega)
 ·exact hc k 10 hk (by omega)
theorem RfAt.at_ {w:World} {A:Option Addr} {l:List Rf} (h:RfAt w A l) {k:Nat} (hk:k < l.length) {f:Rf} (hf:f=l.getD k default) :
  ∃ b off,A=some ⟨b,off,none⟩∧b < w.heap.size∧w.cell? ⟨b,off + k * 9,none⟩=some (.string f.name)∧w.cell? ⟨b,off + k * 9 + 1,none⟩=some (.int .i64 f.params)∧w.cell? ⟨b,off + k * 9 + 2,none⟩=some (.int .i64 f.regs) ∧
   w.cell? ⟨b,off + k * 9 + 3,none⟩=some (.int .i64 f.ty.base)∧w.cell? ⟨b,off + k * 9 + 4,none⟩=some (.int .i64 f.ty.bits)∧w.cell? ⟨b,off + k * 9 + 5,none⟩=some (.string f.ty.name)∧w.cell? ⟨b,off + k * 9 + 6,none⟩=some (.bool f.ty.opt) ∧
   w.cell? ⟨b,off + k * 9 + 7,none⟩=some (.bool f.ty.err)∧w.cell? ⟨b,off + k * 9 + 8,none⟩=some (.slice f.A f.code.length f.cap)∧RgAt w f.A f.code:=by
 subst hf
 obtain ⟨b,off,rfl,hb,h0,h1,h2,h3,h4,h5,h6,h7,h8⟩:=h.top.nine hk
 exact ⟨b,off,rfl,hb,h0,h1,h2,h3,h4,h5,h6,h7,h8,h.sub _ (getD_mem hk)⟩
theorem RgAt.at_ {w:World} {A:Option Addr} {l:List Rg} (h:RgAt w A l) {k:Nat} (hk:k < l.length) {x:Rg} (hx:x=l.getD k default) :
  ∃ b off,A=some ⟨b,off,none⟩∧b < w.heap.size∧w.cell? ⟨b,off + k * 11,none⟩=some (.int .i64 x.op)∧w.cell? ⟨b,off + k * 11 + 1,none⟩=some (.int .i64 x.d)∧w.cell? ⟨b,off + k * 11 + 2,none⟩=some (.int .i64 x.a)∧w.cell? ⟨b,off + k * 11 + 3,none⟩=some (.int .i64 x.b) ∧
   w.cell? ⟨b,off + k * 11 + 4,none⟩=some (.int .i64 x.ty.base)∧w.cell? ⟨b,off + k * 11 + 5,none⟩=some (.int .i64 x.ty.bits)∧w.cell? ⟨b,off + k * 11 + 6,none⟩=some (.string x.ty.name)∧w.cell? ⟨b,off + k * 11 + 7,none⟩=some (.bool x.ty.opt) ∧
   w.cell? ⟨b,off + k * 11 + 8,none⟩=some (.bool x.ty.err)∧w.cell? ⟨b,off + k * 11 + 9,none⟩=some (.string x.name)∧w.cell? ⟨b,off + k * 11 + 10,none⟩=some (.slice x.A x.args.length x.cap)∧NumsAt w x.A x.args:=by
 subst hx
 obtain ⟨b,off,rfl,hb,h0,h1,h2,h3,h4,h5,h6,h7,h8,h9,h10⟩:=h.top.eleven hk
 exact ⟨b,off,rfl,hb,h0,h1,h2,h3,h4,h5,h6,h7,h8,h9,h10,h.sub _ (getD_mem hk)⟩
def Rf.val (f:Rf):Value:=.agg #[.string f.name,.int .i64 f.params,.int .i64 f.regs,.int .i64 f.ty.base,.int .i64 f.ty.bits,.string f.ty.name,.bool f.ty.opt,.bool f.ty.err,.slice f.A f.code.length f.cap]
def Rg.val (x:Rg):Value:=.agg #[.int .i64 x.op,.int .i64 x.d,.int .i64 x.a,.int .i64 x.b,.int .i64 x.ty.base,.int .i64 x.ty.bits,.string x.ty.name,.bool x.ty.opt,.bool x.ty.err,.string x.name,.slice x.A x.args.length x.cap]

def partsR (op:Int):Int × Int × Int :=
 if op=0 then (1,4,0)
 else if op=1 ∨ op=14 ∨ op=16 then (1,0,0)
 else if op=2 ∨ op=5 ∨ op=6 ∨ op=7 ∨ op=8 ∨ op=9 then (1,1,0)
 else if op=3 then (1,2,0)
 else if op=4 then (0,2,1)
 else if op=10 ∨ op=11 ∨ op=13 then (3,1,0)
 else if op=12 then (3,0,0)
 else if op=15 then (0,1,0)
 else if op=17 then (0,4,0)
 else (1,1,1)
def isPartB (kind n regs code:Int):Bool :=
 if kind=0 then n == 0 else if kind=1 then inB n 0 (regs - 1) else if kind=2 then inB n 0 299 else if kind=3 then inB n 0 (code - 1) else true
def isOpB (op:Int):Bool:=inB op 0 17 || (inB op 105 117 || inB op 118 123)
def restR (pb:Bool) (x:Rg):Bool :=
 if x.op=0 then emp x.name && (inB x.a (-2147483648) 2147483648 && pushS x.ty)
 else if x.op=17 then emp x.name && (inB x.a 1 5 && tz x.ty)
 else if x.op=14 then pb && tz x.ty
 else if x.op=16 then isNameS x.name && tz x.ty
 else if x.op=5 ∨ x.op=7 ∨ x.op=8 then emp x.name && isIntS x.ty
 else if 105 ≤ x.op∧x.op ≤ 117 then emp x.name && isIntS x.ty
 else emp x.name && tz x.ty
def argsB (x:Rg):Bool:=x.args.all (fun i=>x.op == 14 && inB i 0 299)
def instR (pb:Bool) (regs code:Int) (x:Rg):Bool :=
 isOpB x.op && (isPartB (partsR x.op).1 x.d regs code && (isPartB (partsR x.op).2.1 x.a regs code && (isPartB (partsR x.op).2.2 x.b regs code && (argsB x && restR pb x))))
theorem argsB_other {x:Rg} (h:x.op ≠ 14):argsB x=x.args.isEmpty:=by
 unfold argsB
 cases hx:x.args with
 | nil=>rfl
 | cons a t =>
  have:(x.op == 14)=false:=by simpa using h
  simp [this]
theorem argsB_call {x:Rg} (h:x.op=14):argsB x=x.args.all (fun i=>inB i 0 299):=by
 unfold argsB
 rw [h]
 rfl
def valC (v:Val):Nat → Value
 | 0=>.int .i64 v.ty.base
 | 1=>.int .i64 v.ty.bits
 | 2=>.string v.ty.name
 | 3=>.bool v.ty.opt
 | 4=>.bool v.ty.err
 | 5=>.int .i64 v.n
 | 6=>.bool v.null
 | 7=>.string v.err
 | 8=>.int .i64 v.of.base
 | 9=>.int .i64 v.of.bits
 | 10=>.string v.of.name
 | 11=>.bool v.of.opt
 | _=>.bool v.of.err
def Val.cells (v:Val):List Value:=[.int .i64 v.ty.base,.int .i64 v.ty.bits,.string v.ty.name,.bool v.ty.opt,.bool v.ty.err,.int .i64 v.n,.bool v.null,.string v.err,.int .i64 v.of.base,.int .i64 v.of.bits,.string v.of.name,.bool v.of.opt,.bool v.of.err]
def Val.val (v:Val):Value:=.agg v.cells.toArray
theorem Val.len (v:Val):v.cells.length=13:=rfl
theorem Val.get (v:Val) {j:Nat} (hj:j < 13):v.cells[j]?=some (valC v j):=by
 unfold Val.cells
 match j,hj with
 | 0,_=>rfl
 | 1,_=>rfl
 | 2,_=>rfl
 | 3,_=>rfl
 | 4,_=>rfl
 | 5,_=>rfl
 | 6,_=>rfl
 | 7,_=>rfl
 | 8,_=>rfl
 | 9,_=>rfl
 | 10,_=>rfl
 | 11,_=>rfl
 | 12,_=>rfl
theorem Val.one (v:Val):∀ u ∈ v.cells,u.oneCell'=true:=by
 intro u hu
 unfold Val.cells at hu
 simp at hu
 rcases hu with rfl | rfl | rfl | rfl | rfl | rfl | rfl | rfl | rfl | rfl | rfl | rfl | rfl <;> rfl
theorem Val.ones (v:Val):∀ u ∈ v.cells.toArray.toList,u.oneCell'=true:=fun u hu=>v.one u (by simpa using hu)
def ValsAt (w:World) (A:Option Addr) (l:List Val):Prop:=At w A l.length 13 (fun i j=>valC (l.getD i default) j)
theorem ValsAt.ext {w w':World} {A:Option Addr} {l:List Val} (h:ValsAt w A l) (x:Ext w w'):ValsAt w' A l:=At.ext h x
theorem ValsAt.grown {w w':World} {A:Option Addr} {l:List Val} {row:Option Nat} (h:ValsAt w A l) (x:w.grownBy w' row) (hr:∀ a k,A=some a → row=some k → a.block ≠ k):ValsAt w' A l:=by
 intro hn
 obtain ⟨b,off,rfl,hb,hc⟩:=h hn
 refine ⟨b,off,rfl,Nat.lt_of_lt_of_le hb x.size,fun i j hi hj=>?_⟩
 rw [World.cell?_of_block (a:=⟨b,_,none⟩) (x.block b hb (fun e=>hr _ b rfl e.symm rfl))]
 exact hc i j hi hj
theorem ValsAt.at_ {w:World} {A:Option Addr} {l:List Val} (h:ValsAt w A l) {k:Nat} (hk:k < l.length) {v:Val} (hv:v=l.getD k default) :
  ∃ b off,A=some ⟨b,off,none⟩∧b < w.heap.size∧w.cell? ⟨b,off + k * 13,none⟩=some (.int .i64 v.ty.base)∧w.cell? ⟨b,off + k * 13 + 1,none⟩=some (.int .i64 v.ty.bits)∧w.cell? ⟨b,off + k * 13 + 2,none⟩=some (.string v.ty.name) ∧
   w.cell? ⟨b,off + k * 13 + 3,none⟩=some (.bool v.ty.opt)∧w.cell? ⟨b,off + k * 13 + 4,none⟩=some (.bool v.ty.err)∧w.cell? ⟨b,off + k * 13 + 5,none⟩=some (.int .i64 v.n)∧w.cell? ⟨b,off + k * 13 + 6,none⟩=some (.bool v.null) ∧
   w.cell? ⟨b,off + k * 13 + 7,none⟩=some (.string v.err)∧w.cell? ⟨b,off + k * 13 + 8,none⟩=some (.int .i64 v.of.base)∧w.cell? ⟨b,off + k * 13 + 9,none⟩=some (.int .i64 v.of.bits)∧w.cell? ⟨b,off + k * 13 + 10,none⟩=some (.string v.of.name) ∧
   w.cell? ⟨b,off + k * 13 + 11,none⟩=some (.bool v.of.opt)∧w.cell? ⟨b,off + k * 13 + 12,none⟩=some (.bool v.of.err):=by
 subst hv
 obtain ⟨b,off,rfl,hb,hc⟩:=h (by omega)
 refine ⟨b,off,rfl,hb,?_,?_,?_,?_,?_,?_,?_,?_,?_,?_,?_,?_,?_⟩
 ·exact hc k 0 hk (by omega)
 ·exact hc k 1 hk (by omega)
 ·exact hc k 2 hk (by omega)
 ·exact hc k 3 hk (by omega)
 ·exact hc k 4 hk (by omega)
 ·exact hc k 5 hk (by omega)
 ·exact hc k 6 hk (by omega)
 ·exact hc k 7 hk (by omega)
 ·exact hc k 8 hk (by omega)
 ·exact hc k 9 hk (by omega)
 ·exact hc k 10 hk (by omega)
 ·exact hc k 11 hk (by omega)
 ·exact hc k 12 hk (by omega)
theorem ValsAt.range {w:World} {b off:Nat} {l:List Val} (h:ValsAt w (some ⟨b,off,none⟩) l) {k:Nat} (hk:k < l.length):w.rangeAt b (off + k * 13) (l.getD k default).cells:=by
 intro j v hv
 have hj:j < 13:=(List.getElem?_eq_some_iff.1 hv).1
 obtain ⟨b',off',he,hb,hc⟩:=h (by omega)
 cases he
 rw [Val.get _ hj] at hv
 cases hv
 rw [Nat.add_assoc]
 exact hc k j hk hj
def VRow (w:World) (g:Nat) (t:TypeId) (n:Nat) (F:Nat → Val):Prop:=∃ cs:Array Value,Blk w g t cs∧cs.size=n * 13∧∀ i j,i < n → j < 13 → cs[i * 13 + j]?=some (valC (F i) j)
theorem Blk.setCells {g:Nat} {t:TypeId}:∀ (vs:List Value) (o:Nat) (w:World) (cs:Array Value),Blk w g t cs → o + vs.length ≤ cs.size →
  ∃ cs':Array Value,Blk (w.setCells g o vs) g t cs'∧cs'.size=cs.size∧(∀ k,k < o ∨ o + vs.length ≤ k → cs'[k]?=cs[k]?)∧∀ k,k < vs.length → cs'[o + k]?=vs[k]?
 | [],o,w,cs,h,_=>⟨cs,h,rfl,fun _ _=>rfl,fun k hk=>absurd hk (by simp)⟩
 | v :: r,o,w,cs,h,hs=>by
  rw [List.length_cons] at hs
  obtain ⟨cs',h1,h2,h3,h4⟩:=Blk.setCells r (o + 1) _ _ (h.set_ o v) (by simp; omega)
  refine ⟨cs',h1,by simpa using h2,fun k hk=>?_,fun k hk=>?_⟩
  ·rw [List.length_cons] at hk
   rw [h3 k (by omega),Array.getElem?_setIfInBounds,if_neg (by omega)]
  ·cases k with
   | zero =>
    rw [Nat.add_zero,h3 o (by omega),Array.getElem?_setIfInBounds,if_pos rfl,if_pos (by omega)]
    rfl
   | succ k =>
    rw [List.length_cons] at hk
    have:=h4 k (by omega)
    rw [show o + (k + 1)=o + 1 + k by omega,this]
    rfl
theorem setCells_out (g:Nat):∀ (vs:List Value) (o:Nat) (w:World) (k:Nat),k ≠ g → (w.setCells g o vs).heap[k]?=w.heap[k]?
 | [],_,_,_,_=>rfl
 | v :: r,o,w,k,hk=>by
  rw [World.setCells,setCells_out g r (o + 1) _ k hk]
  exact Below.heap_setCell w _ _ k hk
theorem setCells_size (g:Nat):∀ (vs:List Value) (o:Nat) (w:World),(w.setCells g o vs).heap.size=w.heap.size
 | [],_,_=>rfl
 | v :: r,o,w=>by
  rw [World.setCells,setCells_size g r (o + 1) _]
  simp
theorem Ext.setCells {a b:World} (h:Ext a b) {g:Nat} (hg:a.heap.size ≤ g):∀ (vs:List Value) (o:Nat),Ext a (b.setCells g o vs):=by
 intro vs
 induction vs generalizing b with
 | nil=>intro o; exact h
 | cons v r ih=>intro o; rw [World.setCells]; exact ih (h.setCell (p:=⟨g,o,none⟩) hg v) (o + 1)
theorem Blk.setCells_far {g:Nat} {t:TypeId} {w:World} {cs:Array Value} (h:Blk w g t cs) {k:Nat} (hk:g ≠ k) (o:Nat) (vs:List Value):Blk (w.setCells k o vs) g t cs:=(setCells_out k vs o w g hk).trans h
theorem Blk.over {w:World} {g:Nat} {t:TypeId} {cs:Array Value} (h:Blk w g t cs) (vs:List Value) (hs:cs.size=vs.length):Blk (w.setCells g 0 vs) g t vs.toArray:=by
 obtain ⟨cs',h1,h2,h3,h4⟩:=Blk.setCells vs 0 w cs h (by omega)
 have e:cs'=vs.toArray:=by
  apply Array.ext'
  apply List.ext_getElem?
  intro k
  rw [Array.getElem?_toList]
  rcases Nat.lt_or_ge k vs.length with hk | hk
  ·have:=h4 k hk
   rw [Nat.zero_add] at this
   rw [this]
  ·rw [h3 k (by omega),Array.getElem?_eq_none (by omega)]
   exact (List.getElem?_eq_none hk).symm
 rw [← e]
 exact h1
theorem blk2 (w:World) (a:Obj) (t:TypeId) (cs:Array Value):Blk ((w.alloc a).alloc (.cells cs t)) (w.heap.size + 1) t cs:=by
 have h:=Blk.new (w.alloc a) t cs
 rwa [size_alloc] at h
theorem blk3 (w:World) (a b:Obj) (t:TypeId) (cs:Array Value):Blk (((w.alloc a).alloc b).alloc (.cells cs t)) (w.heap.size + 1 + 1) t cs:=by
 have h:=Blk.new ((w.alloc a).alloc b) t cs
 rwa [size_alloc,size_alloc] at h
theorem results_row_tmp {P:Program} {fn:Func} {p u:Tmp} {ty:TypeId} (h:fn.results=#[.cell p ty,.tmp u]) (tmps:Array Value) (w:World) (g:Nat) (t:TypeId) (cs:Array Value) (fr:Nat × Nat) (d:TypeDesc)
  (hp:tmps.getD p undef=.pointer (some ⟨g,0,none⟩)) (hg:w.heap[g]?=some (.cells cs t fr))
  (hu:P.underlying ty=some d) (hd:(match d with | .struct _ | .array _ _=>true | _=>false)=true) (hi:(P.info? ty).map (·.size)=some cs.size) (v:Value) (hv:tmps.getD u undef=v) :
  (results fn tmps).run P w=.ok (.tuple #[.agg cs,v]) w:=by
 rw [results_cell_tmp h]
 have hl:=run_loadVar_row w g t ty cs fr d hg hu hd hi
 rw [hp,hv]
 simp [asAddr,hl,Result.andThen]
section
variable {w w':World} {g n:Nat} {t:TypeId} {F:Nat → Val}
theorem VRow.lt (h:VRow w g t n F):g < w.heap.size:=by
 obtain ⟨cs,hb,_⟩:=h
 exact hb.lt
theorem VRow.ext (h:VRow w g t n F) (x:Ext w w'):VRow w' g t n F:=by
 obtain ⟨cs,hb,r⟩:=h
 exact ⟨cs,hb.ext x,r⟩
theorem VRow.grown {row:Option Nat} (h:VRow w g t n F) (x:w.grownBy w' row) (hne:some g ≠ row):VRow w' g t n F:=by
 obtain ⟨cs,hb,r⟩:=h
 exact ⟨cs,(x.block g hb.lt hne).trans hb,r⟩
theorem VRow.far (h:VRow w g t n F) {p:Addr} (hp:g ≠ p.block) (u:Value):VRow (w.setCell p u) g t n F:=by
 obtain ⟨cs,hb,r⟩:=h
 exact ⟨cs,hb.far hp u,r⟩
theorem VRow.cells_far (h:VRow w g t n F) {k:Nat} (hk:g ≠ k) (o:Nat) (vs:List Value):VRow (w.setCells k o vs) g t n F:=by
 obtain ⟨cs,hb,r⟩:=h
 exact ⟨cs,hb.setCells_far hk o vs,r⟩
theorem VRow.cell (h:VRow w g t n F) {i j:Nat} (hi:i < n) (hj:j < 13):w.cell? ⟨g,i * 13 + j,none⟩=some (valC (F i) j):=by
 obtain ⟨cs,hb,_,hc⟩:=h
 rw [hb.cell,hc i j hi hj]
theorem VRow.range (h:VRow w g t n F) {i:Nat} (hi:i < n):w.rangeAt g (i * 13) (F i).cells:=by
 intro j v hv
 have hj:j < 13:=(List.getElem?_eq_some_iff.1 hv).1
 rw [Val.get _ hj] at hv
 cases hv
 exact h.cell hi hj
theorem VRow.there (h:VRow w g t n F) {i:Nat} (hi:i < n):w.there g (i * 13) 13:=by
 intro j hj
 refine ⟨by rw [h.cell hi hj]; rfl,?_⟩
 obtain ⟨cs,hb,_⟩:=h
 exact hb.frozen _
theorem VRow.put (h:VRow w g t n F) {i:Nat} (hi:i < n) (v:Val):VRow (w.setCells g (i * 13) v.cells) g t n (upd F i v):=by
 obtain ⟨cs,hb,hs,hc⟩:=h
 obtain ⟨cs',h1,h2,h3,h4⟩:=Blk.setCells v.cells (i * 13) w cs hb (by rw [Val.len]; omega)
 refine ⟨cs',h1,by rw [h2,hs],fun a j ha hj=>?_⟩
 unfold upd
 by_cases e:a=i
 ·subst e
  rw [if_pos rfl,h4 j (by rw [Val.len]; exact hj),Val.get _ hj]
 ·rw [if_neg e,h3 _ (by rw [Val.len]; omega),hc a j ha hj]
theorem VRow.same {F':Nat → Val} (h:VRow w g t n F) (hF:∀ i,i < n → F' i=F i):VRow w g t n F':=by
 obtain ⟨cs,hb,hs,hc⟩:=h
 exact ⟨cs,hb,hs,fun i j hi hj=>by rw [hF i hi]; exact hc i j hi hj⟩
theorem VRow.zero {cs:Array Value} (hb:Blk w g t cs) (hs:cs.size=n * 13) (hc:∀ k,k < n * 13 → cs[k]?=some (valC default (k % 13))):VRow w g t n (fun _=>default):=by
 refine ⟨cs,hb,hs,fun i j hi hj=>?_⟩
 rw [hc _ (by omega)]
 congr 1
 congr 1
 omega
end
end Go.Proofs.YtknaemlnhediaaaGreatDoor.c
