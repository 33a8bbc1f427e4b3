/- Register code in memory, and what is right of an instruction, told plainly. No condition. Values in memory: lists of them, and rows of values that a run writes. No condition. Regions that draw their order and hold one call that makes memory, and a store of its result behind it: laws. No condition. Rows of records: a list of records in a block, one field changed, lists that a call has laid itself. No condition. -/
import Derived.Test.YtcoookehfhhhdaaGreatDoorTy
import Derived.Deep.MidRow
import Derived.Laws.ResultCell
import Derived.Test.YtcoookehfhhhdaaGreatDoorFlow
import Derived.OwnWalk
namespace Go.Proofs.YtcoookehfhhhdaaGreatDoor.c
open Go.RowKit
set_option linter.unusedVariables false
set_option linter.unusedSimpArgs false

def rgC (x:Rg):Nat → Value
 | 0=>.int .i64 x.op
 | 1=>.int .i64 x.d
 | 2=>.int .i64 x.a
 | 3=>.int .i64 x.b
 | 4=>.int .i64 x.ty.base
 | 5=>.int .i64 x.ty.bits
 | 6=>.string x.ty.name
 | 7=>.bool x.ty.opt
 | 8=>.bool x.ty.err
 | 9=>.string x.name
 | _=>.slice x.A x.args.length x.cap
def rfC (f:Rf):Nat → Value
 | 0=>.string f.name
 | 1=>.int .i64 f.params
 | 2=>.int .i64 f.regs
 | 3=>.int .i64 f.ty.base
 | 4=>.int .i64 f.ty.bits
 | 5=>.string f.ty.name
 | 6=>.bool f.ty.opt
 | 7=>.bool f.ty.err
 | _=>.slice f.A f.code.length f.cap
def NumsAt (w:World) (A:Option Addr) (l:List Int):Prop:=At w A l.length 1 (fun i _=>.int .i64 (l.getD i 0))
structure RgAt (w:World) (A:Option Addr) (l:List Rg):Prop where
 top:At w A l.length 11 (fun i j=>rgC (l.getD i default) j)
 sub:∀ x,x ∈ l → NumsAt w x.A x.args
structure RfAt (w:World) (A:Option Addr) (l:List Rf):Prop where
 top:At w A l.length 9 (fun i j=>rfC (l.getD i default) j)
 sub:∀ f,f ∈ l → RgAt w f.A f.code
theorem NumsAt.ext {w w':World} {A:Option Addr} {l:List Int} (h:NumsAt w A l) (x:Ext w w'):NumsAt w' A l:=At.ext h x
theorem RgAt.ext {w w':World} {A:Option Addr} {l:List Rg} (h:RgAt w A l) (x:Ext w w'):RgAt w' A l:=⟨At.ext h.top x,fun f hf=>(h.sub f hf).ext x⟩
theorem RfAt.ext {w w':World} {A:Option Addr} {l:List Rf} (h:RfAt w A l) (x:Ext w w'):RfAt w' A l:=⟨At.ext h.top x,fun f hf=>(h.sub f hf).ext x⟩
theorem At.eleven {w:World} {A:Option Addr} {n:Nat} {c:Nat → Nat → Value} (h:At w A n 11 c) {k:Nat} (hk:k < n) :
  ∃ b off,A=some ⟨b,off,none⟩∧b < w.heap.size∧w.cell? ⟨b,off + k * 11,none⟩=some (c k 0)∧w.cell? ⟨b,off + k * 11 + 1,none⟩=some (c k 1)∧w.cell? ⟨b,off + k * 11 + 2,none⟩=some (c k 2) ∧
   w.cell? ⟨b,off + k * 11 + 3,none⟩=some (c k 3)∧w.cell? ⟨b,off + k * 11 + 4,none⟩=some (c k 4)∧w.cell? ⟨b,off + k * 11 + 5,none⟩=some (c k 5)∧w.cell? ⟨b,off + k * 11 + 6,none⟩=some (c k 6) ∧
   w.cell? ⟨b,off + k * 11 + 7,none⟩=some (c k 7)∧w.cell? ⟨b,off + k * 11 + 8,none⟩=some (c k 8)∧w.cell? ⟨b,off + k * 11 + 9,none⟩=some (c k 9)∧w.cell? ⟨b,off + k * 11 + 10,none⟩=some (c k 10):=by
 obtain ⟨b,off,rfl,hb,hc⟩:=h (by omega)
 refine ⟨b,off,rfl,hb,?_,?_,?_,?_,?_,?_,?_,?_,?_,?_,?_⟩
 ·exact hc k 0 hk (by omega)
 ·exact hc k 1 hk (by omega)
 ·exact hc k 2 hk (by omega)
 ·exact hc k 3 hk (by omega)
 ·exact hc k 4 hk (by omega)
 ·exact hc k 5 hk (by omega)
 ·exact hc k 6 hk (by omega)
 ·exact hc k 7 hk (by omega)
 ·exact hc k 8 hk (by omega)
 ·exact hc k 9 hk (by omega)
 ·exact hc k 10 hk (by omega)
theorem RfAt.at_ {w:World} {A:Option Addr} {l:List Rf} (h:RfAt w A l) {k:Nat} (hk:k < l.length) {f:Rf} (hf:f=l.getD k default) :
  ∃ b off,A=some ⟨b,off,none⟩∧b < w.heap.size∧w.cell? ⟨b,off + k * 9,none⟩=some (.string f.name)∧w.cell? ⟨b,off + k * 9 + 1,none⟩=some (.int .i64 f.params)∧w.cell? ⟨b,off + k * 9 + 2,none⟩=some (.int .i64 f.regs) ∧
   w.cell? ⟨b,off + k * 9 + 3,none⟩=some (.int .i64 f.ty.base)∧w.cell? ⟨b,off + k * 9 + 4,none⟩=some (.int .i64 f.ty.bits)∧w.cell? ⟨b,off + k * 9 + 5,none⟩=some (.string f.ty.name)∧w.cell? ⟨b,off + k * 9 + 6,none⟩=some (.bool f.ty.opt) ∧
   w.cell? ⟨b,off + k * 9 + 7,none⟩=some (.bool f.ty.err)∧w.cell? ⟨b,off + k * 9 + 8,none⟩=some (.slice f.A f.code.length f.cap)∧RgAt w f.A f.code:=by
 subst hf
 obtain ⟨b,off,rfl,hb,h0,h1,h2,h3,h4,h5,h6,h7,h8⟩:=h.top.nine hk
 exact ⟨b,off,rfl,hb,h0,h1,h2,h3,h4,h5,h6,h7,h8,h.sub _ (getD_mem hk)⟩
theorem RgAt.at_ {w:World} {A:Option Addr} {l:List Rg} (h:RgAt w A l) {k:Nat} (hk:k < l.length) {x:Rg} (hx:x=l.getD k default) :
  ∃ b off,A=some ⟨b,off,none⟩∧b < w.heap.size∧w.cell? ⟨b,off + k * 11,none⟩=some (.int .i64 x.op)∧w.cell? ⟨b,off + k * 11 + 1,none⟩=some (.int .i64 x.d)∧w.cell? ⟨b,off + k * 11 + 2,none⟩=some (.int .i64 x.a)∧w.cell? ⟨b,off + k * 11 + 3,none⟩=some (.int .i64 x.b) ∧
   w.cell? ⟨b,off + k * 11 + 4,none⟩=some (.int .i64 x.ty.base)∧w.cell? ⟨b,off + k * 11 + 5,none⟩=some (.int .i64 x.ty.bits)∧w.cell? ⟨b,off + k * 11 + 6,none⟩=some (.string x.ty.name)∧w.cell? ⟨b,off + k * 11 + 7,none⟩=some (.bool x.ty.opt) ∧
   w.cell? ⟨b,off + k * 11 + 8,none⟩=some (.bool x.ty.err)∧w.cell? ⟨b,off + k * 11 + 9,none⟩=some (.string x.name)∧w.cell? ⟨b,off + k * 11 + 10,none⟩=some (.slice x.A x.args.length x.cap)∧NumsAt w x.A x.args:=by
 subst hx
 obtain ⟨b,off,rfl,hb,h0,h1,h2,h3,h4,h5,h6,h7,h8,h9,h10⟩:=h.top.eleven hk
 exact ⟨b,off,rfl,hb,h0,h1,h2,h3,h4,h5,h6,h7,h8,h9,h10,h.sub _ (getD_mem hk)⟩
def Rf.val (f:Rf):Value:=.agg #[.string f.name,.int .i64 f.params,.int .i64 f.regs,.int .i64 f.ty.base,.int .i64 f.ty.bits,.string f.ty.name,.bool f.ty.opt,.bool f.ty.err,.slice f.A f.code.length f.cap]
def Rg.val (x:Rg):Value:=.agg #[.int .i64 x.op,.int .i64 x.d,.int .i64 x.a,.int .i64 x.b,.int .i64 x.ty.base,.int .i64 x.ty.bits,.string x.ty.name,.bool x.ty.opt,.bool x.ty.err,.string x.name,.slice x.A x.args.length x.cap]

def partsR (op:Int):Int × Int × Int :=
 if op=0 then (1,4,0)
 else if op=1 ∨ op=14 ∨ op=16 then (1,0,0)
 else if op=2 ∨ op=5 ∨ op=6 ∨ op=7 ∨ op=8 ∨ op=9 then (1,1,0)
 else if op=3 then (1,2,0)
 else if op=4 then (0,2,1)
 else if op=10 ∨ op=11 ∨ op=13 then (3,1,0)
 else if op=12 then (3,0,0)
 else if op=15 then (0,1,0)
 else if op=17 then (0,4,0)
 else (1,1,1)
def isPartB (kind n regs code:Int):Bool :=
 if kind=0 then n == 0 else if kind=1 then inB n 0 (regs - 1) else if kind=2 then inB n 0 299 else if kind=3 then inB n 0 (code - 1) else true
def isOpB (op:Int):Bool:=inB op 0 17 || (inB op 105 117 || inB op 118 123)
def restR (pb:Bool) (x:Rg):Bool :=
 if x.op=0 then emp x.name && (inB x.a (-2147483648) 2147483648 && pushS x.ty)
 else if x.op=17 then emp x.name && (inB x.a 1 5 && tz x.ty)
 else if x.op=14 then pb && tz x.ty
 else if x.op=16 then isNameS x.name && tz x.ty
 else if x.op=5 ∨ x.op=7 ∨ x.op=8 then emp x.name && isIntS x.ty
 else if 105 ≤ x.op∧x.op ≤ 117 then emp x.name && isIntS x.ty
 else emp x.name && tz x.ty
def argsB (x:Rg):Bool:=x.args.all (fun i=>x.op == 14 && inB i 0 299)
def instR (pb:Bool) (regs code:Int) (x:Rg):Bool :=
 isOpB x.op && (isPartB (partsR x.op).1 x.d regs code && (isPartB (partsR x.op).2.1 x.a regs code && (isPartB (partsR x.op).2.2 x.b regs code && (argsB x && restR pb x))))
theorem argsB_other {x:Rg} (h:x.op ≠ 14):argsB x=x.args.isEmpty:=by
 unfold argsB
 cases hx:x.args with
 | nil=>rfl
 | cons a t =>
  have:(x.op == 14)=false:=by simpa using h
  simp [this]
theorem argsB_call {x:Rg} (h:x.op=14):argsB x=x.args.all (fun i=>inB i 0 299):=by
 unfold argsB
 rw [h]
 rfl
def valC (v:Val):Nat → Value
 | 0=>.int .i64 v.ty.base
 | 1=>.int .i64 v.ty.bits
 | 2=>.string v.ty.name
 | 3=>.bool v.ty.opt
 | 4=>.bool v.ty.err
 | 5=>.int .i64 v.n
 | 6=>.bool v.null
 | 7=>.string v.err
 | 8=>.int .i64 v.of.base
 | 9=>.int .i64 v.of.bits
 | 10=>.string v.of.name
 | 11=>.bool v.of.opt
 | _=>.bool v.of.err
def Val.cells (v:Val):List Value:=[.int .i64 v.ty.base,.int .i64 v.ty.bits,.string v.ty.name,.bool v.ty.opt,.bool v.ty.err,.int .i64 v.n,.bool v.null,.string v.err,.int .i64 v.of.base,.int .i64 v.of.bits,.string v.of.name,.bool v.of.opt,.bool v.of.err]
def Val.val (v:Val):Value:=.agg v.cells.toArray
theorem Val.len (v:Val):v.cells.length=13:=rfl
theorem Val.get (v:Val) {j:Nat} (hj:j < 13):v.cells[j]?=some (valC v j):=by
 unfold Val.cells
 match j,hj with
 | 0,_=>rfl
 | 1,_=>rfl
 | 2,_=>rfl
 | 3,_=>rfl
 | 4,_=>rfl
 | 5,_=>rfl
 | 6,_=>rfl
 | 7,_=>rfl
 | 8,_=>rfl
 | 9,_=>rfl
 | 10,_=>rfl
 | 11,_=>rfl
 | 12,_=>rfl
theorem Val.one (v:Val):∀ u ∈ v.cells,u.oneCell'=true:=by
 intro u hu
 unfold Val.cells at hu
 simp at hu
 rcases hu with rfl | rfl | rfl | rfl | rfl | rfl | rfl | rfl | rfl | rfl | rfl | rfl | rfl <;> rfl
theorem Val.ones (v:Val):∀ u ∈ v.cells.toArray.toList,u.oneCell'=true:=fun u hu=>v.one u (by simpa using hu)
def ValsAt (w:World) (A:Option Addr) (l:List Val):Prop:=At w A l.length 13 (fun i j=>valC (l.getD i default) j)
theorem ValsAt.ext {w w':World} {A:Option Addr} {l:List Val} (h:ValsAt w A l) (x:Ext w w'):ValsAt w' A l:=At.ext h x
theorem ValsAt.grown {w w':World} {A:Option Addr} {l:List Val} {row:Option Nat} (h:ValsAt w A l) (x:w.grownBy w' row) (hr:∀ a k,A=some a → row=some k → a.block ≠ k):ValsAt w' A l:=by
 intro hn
 obtain ⟨b,off,rfl,hb,hc⟩:=h hn
 refine ⟨b,off,rfl,Nat.lt_of_lt_of_le hb x.size,fun i j hi hj=>?_⟩
 rw [World.cell?_of_block (a:=⟨b,_,none⟩) (x.block b hb (fun e=>hr _ b rfl e.symm rfl))]
 exact hc i j hi hj
theorem ValsAt.at_ {w:World} {A:Option Addr} {l:List Val} (h:ValsAt w A l) {k:Nat} (hk:k < l.length) {v:Val} (hv:v=l.getD k default) :
  ∃ b off,A=some ⟨b,off,none⟩∧b < w.heap.size∧w.cell? ⟨b,off + k * 13,none⟩=some (.int .i64 v.ty.base)∧w.cell? ⟨b,off + k * 13 + 1,none⟩=some (.int .i64 v.ty.bits)∧w.cell? ⟨b,off + k * 13 + 2,none⟩=some (.string v.ty.name) ∧
   w.cell? ⟨b,off + k * 13 + 3,none⟩=some (.bool v.ty.opt)∧w.cell? ⟨b,off + k * 13 + 4,none⟩=some (.bool v.ty.err)∧w.cell? ⟨b,off + k * 13 + 5,none⟩=some (.int .i64 v.n)∧w.cell? ⟨b,off + k * 13 + 6,none⟩=some (.bool v.null) ∧
   w.cell? ⟨b,off + k * 13 + 7,none⟩=some (.string v.err)∧w.cell? ⟨b,off + k * 13 + 8,none⟩=some (.int .i64 v.of.base)∧w.cell? ⟨b,off + k * 13 + 9,none⟩=some (.int .i64 v.of.bits)∧w.cell? ⟨b,off + k * 13 + 10,none⟩=some (.string v.of.name) ∧
   w.cell? ⟨b,off + k * 13 + 11,none⟩=some (.bool v.of.opt)∧w.cell? ⟨b,off + k * 13 + 12,none⟩=some (.bool v.of.err):=by
 subst hv
 obtain ⟨b,off,rfl,hb,hc⟩:=h (by omega)
 refine ⟨b,off,rfl,hb,?_,?_,?_,?_,?_,?_,?_,?_,?_,?_,?_,?_,?_⟩
 ·exact hc k 0 hk (by omega)
 ·exact hc k 1 hk (by omega)
 ·exact hc k 2 hk (by omega)
 ·exact hc k 3 hk (by omega)
 ·exact hc k 4 hk (by omega)
 ·exact hc k 5 hk (by omega)
 ·exact hc k 6 hk (by omega)
 ·exact hc k 7 hk (by omega)
 ·exact hc k 8 hk (by omega)
 ·exact hc k 9 hk (by omega)
 ·exact hc k 10 hk (by omega)
 ·exact hc k 11 hk (by omega)
 ·exact hc k 12 hk (by omega)
theorem ValsAt.range {w:World} {b off:Nat} {l:List Val} (h:ValsAt w (some ⟨b,off,none⟩) l) {k:Nat} (hk:k < l.length):w.rangeAt b (off + k * 13) (l.getD k default).cells:=by
 intro j v hv
 have hj:j < 13:=(List.getElem?_eq_some_iff.1 hv).1
 obtain ⟨b',off',he,hb,hc⟩:=h (by omega)
 cases he
 rw [Val.get _ hj] at hv
 cases hv
 rw [Nat.add_assoc]
 exact hc k j hk hj
def VRow (w:World) (g:Nat) (t:TypeId) (n:Nat) (F:Nat → Val):Prop:=∃ cs:Array Value,Blk w g t cs∧cs.size=n * 13∧∀ i j,i < n → j < 13 → cs[i * 13 + j]?=some (valC (F i) j)
theorem Blk.setCells {g:Nat} {t:TypeId}:∀ (vs:List Value) (o:Nat) (w:World) (cs:Array Value),Blk w g t cs → o + vs.length ≤ cs.size →
  ∃ cs':Array Value,Blk (w.setCells g o vs) g t cs'∧cs'.size=cs.size∧(∀ k,k < o ∨ o + vs.length ≤ k → cs'[k]?=cs[k]?)∧∀ k,k < vs.length → cs'[o + k]?=vs[k]?
 | [],o,w,cs,h,_=>⟨cs,h,rfl,fun _ _=>rfl,fun k hk=>absurd hk (by simp)⟩
 | v :: r,o,w,cs,h,hs=>by
  rw [List.length_cons] at hs
  obtain ⟨cs',h1,h2,h3,h4⟩:=Blk.setCells r (o + 1) _ _ (h.set_ o v) (by simp; omega)
  refine ⟨cs',h1,by simpa using h2,fun k hk=>?_,fun k hk=>?_⟩
  ·rw [List.length_cons] at hk
   rw [h3 k (by omega),Array.getElem?_setIfInBounds,if_neg (by omega)]
  ·cases k with
   | zero =>
    rw [Nat.add_zero,h3 o (by omega),Array.getElem?_setIfInBounds,if_pos rfl,if_pos (by omega)]
    rfl
   | succ k =>
    rw [List.length_cons] at hk
    have:=h4 k (by omega)
    rw [show o + (k + 1)=o + 1 + k by omega,this]
    rfl
theorem setCells_out (g:Nat):∀ (vs:List Value) (o:Nat) (w:World) (k:Nat),k ≠ g → (w.setCells g o vs).heap[k]?=w.heap[k]?
 | [],_,_,_,_=>rfl
 | v :: r,o,w,k,hk=>by
  rw [World.setCells,setCells_out g r (o + 1) _ k hk]
  exact Below.heap_setCell w _ _ k hk
theorem setCells_size (g:Nat):∀ (vs:List Value) (o:Nat) (w:World),(w.setCells g o vs).heap.size=w.heap.size
 | [],_,_=>rfl
 | v :: r,o,w=>by
  rw [World.setCells,setCells_size g r (o + 1) _]
  simp
theorem Ext.setCells {a b:World} (h:Ext a b) {g:Nat} (hg:a.heap.size ≤ g):∀ (vs:List Value) (o:Nat),Ext a (b.setCells g o vs):=by
 intro vs
 induction vs generalizing b with
 | nil=>intro o; exact h
 | cons v r ih=>intro o; rw [World.setCells]; exact ih (h.setCell (p:=⟨g,o,none⟩) hg v) (o + 1)
theorem Blk.setCells_far {g:Nat} {t:TypeId} {w:World} {cs:Array Value} (h:Blk w g t cs) {k:Nat} (hk:g ≠ k) (o:Nat) (vs:List Value):Blk (w.setCells k o vs) g t cs:=(setCells_out k vs o w g hk).trans h
theorem Blk.over {w:World} {g:Nat} {t:TypeId} {cs:Array Value} (h:Blk w g t cs) (vs:List Value) (hs:cs.size=vs.length):Blk (w.setCells g 0 vs) g t vs.toArray:=by
 obtain ⟨cs',h1,h2,h3,h4⟩:=Blk.setCells vs 0 w cs h (by omega)
 have e:cs'=vs.toArray:=by
  apply Array.ext'
  apply List.ext_getElem?
  intro k
  rw [Array.getElem?_toList]
  rcases Nat.lt_or_ge k vs.length with hk | hk
  ·have:=h4 k hk
   rw [Nat.zero_add] at this
   rw [this]
  ·rw [h3 k (by omega),Array.getElem?_eq_none (by omega)]
   exact (List.getElem?_eq_none hk).symm
 rw [← e]
 exact h1
theorem blk2 (w:World) (a:Obj) (t:TypeId) (cs:Array Value):Blk ((w.alloc a).alloc (.cells cs t)) (w.heap.size + 1) t cs:=by
 have h:=Blk.new (w.alloc a) t cs
 rwa [size_alloc] at h
theorem blk3 (w:World) (a b:Obj) (t:TypeId) (cs:Array Value):Blk (((w.alloc a).alloc b).alloc (.cells cs t)) (w.heap.size + 1 + 1) t cs:=by
 have h:=Blk.new ((w.alloc a).alloc b) t cs
 rwa [size_alloc,size_alloc] at h
theorem results_row_tmp {P:Program} {fn:Func} {p u:Tmp} {ty:TypeId} (h:fn.results=#[.cell p ty,.tmp u]) (tmps:Array Value) (w:World) (g:Nat) (t:TypeId) (cs:Array Value) (fr:Nat × Nat) (d:TypeDesc)
  (hp:tmps.getD p undef=.pointer (some ⟨g,0,none⟩)) (hg:w.heap[g]?=some (.cells cs t fr))
  (hu:P.underlying ty=some d) (hd:(match d with | .struct _ | .array _ _=>true | _=>false)=true) (hi:(P.info? ty).map (·.size)=some cs.size) (v:Value) (hv:tmps.getD u undef=v) :
  (results fn tmps).run P w=.ok (.tuple #[.agg cs,v]) w:=by
 rw [results_cell_tmp h]
 have hl:=run_loadVar_row w g t ty cs fr d hg hu hd hi
 rw [hp,hv]
 simp [asAddr,hl,Result.andThen]
section
variable {w w':World} {g n:Nat} {t:TypeId} {F:Nat → Val}
theorem VRow.lt (h:VRow w g t n F):g < w.heap.size:=by
 obtain ⟨cs,hb,_⟩:=h
 exact hb.lt
theorem VRow.ext (h:VRow w g t n F) (x:Ext w w'):VRow w' g t n F:=by
 obtain ⟨cs,hb,r⟩:=h
 exact ⟨cs,hb.ext x,r⟩
theorem VRow.grown {row:Option Nat} (h:VRow w g t n F) (x:w.grownBy w' row) (hne:some g ≠ row):VRow w' g t n F:=by
 obtain ⟨cs,hb,r⟩:=h
 exact ⟨cs,(x.block g hb.lt hne).trans hb,r⟩
theorem VRow.far (h:VRow w g t n F) {p:Addr} (hp:g ≠ p.block) (u:Value):VRow (w.setCell p u) g t n F:=by
 obtain ⟨cs,hb,r⟩:=h
 exact ⟨cs,hb.far hp u,r⟩
theorem VRow.cells_far (h:VRow w g t n F) {k:Nat} (hk:g ≠ k) (o:Nat) (vs:List Value):VRow (w.setCells k o vs) g t n F:=by
 obtain ⟨cs,hb,r⟩:=h
 exact ⟨cs,hb.setCells_far hk o vs,r⟩
theorem VRow.cell (h:VRow w g t n F) {i j:Nat} (hi:i < n) (hj:j < 13):w.cell? ⟨g,i * 13 + j,none⟩=some (valC (F i) j):=by
 obtain ⟨cs,hb,_,hc⟩:=h
 rw [hb.cell,hc i j hi hj]
theorem VRow.range (h:VRow w g t n F) {i:Nat} (hi:i < n):w.rangeAt g (i * 13) (F i).cells:=by
 intro j v hv
 have hj:j < 13:=(List.getElem?_eq_some_iff.1 hv).1
 rw [Val.get _ hj] at hv
 cases hv
 exact h.cell hi hj
theorem VRow.there (h:VRow w g t n F) {i:Nat} (hi:i < n):w.there g (i * 13) 13:=by
 intro j hj
 refine ⟨by rw [h.cell hi hj]; rfl,?_⟩
 obtain ⟨cs,hb,_⟩:=h
 exact hb.frozen _
theorem VRow.put (h:VRow w g t n F) {i:Nat} (hi:i < n) (v:Val):VRow (w.setCells g (i * 13) v.cells) g t n (upd F i v):=by
 obtain ⟨cs,hb,hs,hc⟩:=h
 obtain ⟨cs',h1,h2,h3,h4⟩:=Blk.setCells v.cells (i * 13) w cs hb (by rw [Val.len]; omega)
 refine ⟨cs',h1,by rw [h2,hs],fun a j ha hj=>?_⟩
 unfold upd
 by_cases e:a=i
 ·subst e
  rw [if_pos rfl,h4 j (by rw [Val.len]; exact hj),Val.get _ hj]
 ·rw [if_neg e,h3 _ (by rw [Val.len]; omega),hc a j ha hj]
theorem VRow.same {F':Nat → Val} (h:VRow w g t n F) (hF:∀ i,i < n → F' i=F i):VRow w g t n F':=by
 obtain ⟨cs,hb,hs,hc⟩:=h
 exact ⟨cs,hb,hs,fun i j hi hj=>by rw [hF i hi]; exact hc i j hi hj⟩
theorem VRow.zero {cs:Array Value} (hb:Blk w g t cs) (hs:cs.size=n * 13) (hc:∀ k,k < n * 13 → cs[k]?=some (valC default (k % 13))):VRow w g t n (fun _=>default):=by
 refine ⟨cs,hb,hs,fun i j hi hj=>?_⟩
 rw [hc _ (by omega)]
 congr 1
 congr 1
 omega
end
theorem put_ne (b:Act) {k t:Nat} (v:Value) (h:k ≠ t):(b.put (some k) v).tmps[t]?=b.tmps[t]?:=by
 show (b.tmps.setIfInBounds k v)[t]?=_
 rw [Array.getElem?_setIfInBounds,if_neg h]
theorem put_get (b:Act) {k n:Nat} (v:Value) (h:k < n) (hn:n=b.tmps.size):(b.put (some k) v).tmps[k]?=some v:=by
 show (b.tmps.setIfInBounds k v)[k]?=_
 rw [Array.getElem?_setIfInBounds,if_pos rfl,if_pos (by omega)]
section
variable {P:Program} {ops:Array Oper} {Q:Exit → Act → World → Prop} {md:Region.Mode} {F:Array Bool → Act → World → Prop}
def F1 (p:World → Prop) (c s t:Nat) (R1 R3:World → Prop) (R2:Value → World → Prop) (l:Array Bool) (b:Act) (w:World):Prop :=
 p w∧(if l.getD s false=true then R3 w else if l.getD c false=true then ∃ v,b.tmps[t]?=some v∧R2 v w else R1 w)
theorem F1.same {p:World → Prop} {c s t:Nat} {R1 R3:World → Prop} {R2:Value → World → Prop} {i k:Nat} (h1:i ≠ c) (h2:i ≠ s) (h3:k ≠ t) (v:Value) (l:Array Bool) (b:Act) (w:World) :
  F1 p c s t R1 R3 R2 (l.setIfInBounds i true) (b.put (some k) v) w ↔ F1 p c s t R1 R3 R2 l b w:=by
 unfold F1
 rw [getD_set_ne false h2,getD_set_ne false h1,put_ne b v h3]
section
variable {p:World → Prop} {c s t:Nat} {R1 R3:World → Prop} {R2:Value → World → Prop} {l:Array Bool} {b:Act} {w:World}
end
theorem put_comm (a:Act) {t u:Nat} (h:t ≠ u) (v x:Value):(a.put (some t) v).put (some u) x=(a.put (some u) x).put (some t) v:=by
 show Act.mk ((a.tmps.setIfInBounds t v).setIfInBounds u x) a.defers=Act.mk ((a.tmps.setIfInBounds u x).setIfInBounds t v) a.defers
 rw [Array.setIfInBounds_comm _ _ h]
end
def A2 (w0:World) (ty:TypeId) (Z X Y:Array Value) (i k s r t u:Nat) (l:Array Bool) (b:Act) (w:World):Prop :=
 Ext w0 w∧(l.getD i false=true → ∃ g,b.tmps[t]?=some (.pointer (some ⟨g,0,none⟩))∧w0.heap.size ≤ g∧Blk w g ty (if l.getD s false=true then X else Z)) ∧
  (l.getD k false=true → ∃ g,b.tmps[u]?=some (.pointer (some ⟨g,0,none⟩))∧w0.heap.size ≤ g∧Blk w g ty (if l.getD r false=true then Y else Z)) ∧
  (l.getD i false=true → l.getD k false=true → b.tmps[t]? ≠ b.tmps[u]?)
section
variable {w0:World} {ty:TypeId} {Z X Y:Array Value} {i k s r t u:Nat} {l:Array Bool} {b:Act} {w:World}
theorem A2.same {j q:Nat} (h1:j ≠ i) (h2:j ≠ k) (h3:j ≠ s) (h4:j ≠ r) (h5:q ≠ t) (h6:q ≠ u) (v:Value) (l:Array Bool) (b:Act) (w:World):A2 w0 ty Z X Y i k s r t u (l.setIfInBounds j true) (b.put (some q) v) w ↔ A2 w0 ty Z X Y i k s r t u l b w:=by
 unfold A2
 rw [getD_set_ne false h1,getD_set_ne false h2,getD_set_ne false h3,getD_set_ne false h4,put_ne b v h5,put_ne b v h6]
theorem getD_set_eq {l:Array Bool} {j:Nat} (h:j < l.size):(l.setIfInBounds j true).getD j false=true:=by simp [Array.getD,h]
theorem A2.start (h:Ext w0 w) (h1:l.getD i false=false) (h2:l.getD k false=false):A2 w0 ty Z X Y i k s r t u l b w:=⟨h,fun e=>(by rw [h1] at e; cases e),fun e=>(by rw [h2] at e; cases e),fun e=>(by rw [h1] at e; cases e)⟩
theorem A2.one (h:A2 w0 ty Z X Y i k s r t u l b w) (hi:l.getD i false=false) (hs:l.getD s false=false) (hik:i ≠ k) (his:i ≠ s) (hir:i ≠ r) (htu:t ≠ u) {n:Nat} (ht:t < n) (hn:n=b.tmps.size) :
  A2 w0 ty Z X Y i k s r t u (l.setIfInBounds i true) (b.put (some t) (.pointer (some ⟨w.heap.size,0,none⟩))) (w.alloc (.cells Z ty)):=by
 obtain ⟨h1,_,h3,_⟩:=h
 unfold A2
 rw [getD_set_ne false hik,getD_set_ne false his,getD_set_ne false hir,put_ne b _ htu,put_get b _ ht hn,hs]
 refine ⟨h1.alloc _,fun _=>⟨_,rfl,h1.size,Blk.new _ _ _⟩,fun e=>?_,fun _ e=>?_⟩
 ·obtain ⟨g,a1,a2,a3⟩:=h3 e
  exact ⟨g,a1,a2,a3.alloc _⟩
 ·obtain ⟨g,a1,a2,a3⟩:=h3 e
  rw [a1]
  intro e2
  cases e2
  exact absurd a3.lt (Nat.lt_irrefl _)
theorem A2.two (h:A2 w0 ty Z X Y i k s r t u l b w) (hk:l.getD k false=false) (hr:l.getD r false=false) (hik:k ≠ i) (hks:k ≠ s) (hkr:k ≠ r) (htu:u ≠ t) {n:Nat} (ht:u < n) (hn:n=b.tmps.size) :
  A2 w0 ty Z X Y i k s r t u (l.setIfInBounds k true) (b.put (some u) (.pointer (some ⟨w.heap.size,0,none⟩))) (w.alloc (.cells Z ty)):=by
 obtain ⟨h1,h2,_,_⟩:=h
 unfold A2
 rw [getD_set_ne false hik,getD_set_ne false hks,getD_set_ne false hkr,put_ne b _ htu,put_get b _ ht hn,hr]
 refine ⟨h1.alloc _,fun e=>?_,fun _=>⟨_,rfl,h1.size,Blk.new _ _ _⟩,fun e _=>?_⟩
 ·obtain ⟨g,a1,a2,a3⟩:=h2 e
  exact ⟨g,a1,a2,a3.alloc _⟩
 ·obtain ⟨g,a1,a2,a3⟩:=h2 e
  rw [a1]
  intro e2
  cases e2
  exact absurd a3.lt (Nat.lt_irrefl _)
theorem A2.get (h:A2 w0 ty Z X Y i k s r t u l b w) {g g':Nat} (hi:l.getD i false=true) (hk:l.getD k false=true) (ht:b.tmps[t]?=some (.pointer (some ⟨g,0,none⟩))) (hu:b.tmps[u]?=some (.pointer (some ⟨g',0,none⟩))) :
  Ext w0 w∧g ≠ g'∧w0.heap.size ≤ g∧w0.heap.size ≤ g'∧Blk w g ty (if l.getD s false=true then X else Z)∧Blk w g' ty (if l.getD r false=true then Y else Z):=by
 obtain ⟨h1,h2,h3,h4⟩:=h
 obtain ⟨q,a1,a2,a3⟩:=h2 hi
 obtain ⟨q',b1,b2,b3⟩:=h3 hk
 have hne:=h4 hi hk
 rw [ht] at a1 hne
 rw [hu] at b1 hne
 cases a1
 cases b1
 exact ⟨h1,fun e=>hne (by rw [e]),a2,b2,a3,b3⟩
theorem A2.there1 (h:A2 w0 ty Z X Y i k s r t u l b w) {g g':Nat} (hi:l.getD i false=true) (hk:l.getD k false=true) (ht:b.tmps[t]?=some (.pointer (some ⟨g,0,none⟩))) (hu:b.tmps[u]?=some (.pointer (some ⟨g',0,none⟩))) (hX:X.size=Z.size):w.there g 0 X.size:=by
 obtain ⟨_,_,_,_,a3,_⟩:=h.get hi hk ht hu
 intro j hj
 rw [Nat.zero_add]
 refine ⟨?_,a3.frozen j⟩
 rw [a3.cell]
 split
 ·rw [Array.getElem?_eq_getElem hj]; rfl
 ·rw [Array.getElem?_eq_getElem (by omega)]; rfl
theorem A2.there2 (h:A2 w0 ty Z X Y i k s r t u l b w) {g g':Nat} (hi:l.getD i false=true) (hk:l.getD k false=true) (ht:b.tmps[t]?=some (.pointer (some ⟨g,0,none⟩))) (hu:b.tmps[u]?=some (.pointer (some ⟨g',0,none⟩))) (hX:Y.size=Z.size):w.there g' 0 Y.size:=by
 obtain ⟨_,_,_,_,_,a3⟩:=h.get hi hk ht hu
 intro j hj
 rw [Nat.zero_add]
 refine ⟨?_,a3.frozen j⟩
 rw [a3.cell]
 split
 ·rw [Array.getElem?_eq_getElem hj]; rfl
 ·rw [Array.getElem?_eq_getElem (by omega)]; rfl
theorem A2.put1 (h:A2 w0 ty Z X Y i k s r t u l b w) {g g':Nat} (hi:l.getD i false=true) (hk:l.getD k false=true) (ht:b.tmps[t]?=some (.pointer (some ⟨g,0,none⟩))) (hu:b.tmps[u]?=some (.pointer (some ⟨g',0,none⟩))) (hs:l.getD s false=false) (hsl:s < l.size) (hsi:s ≠ i) (hsk:s ≠ k) (hsr:s ≠ r) (hX:X.size=Z.size) :
  A2 w0 ty Z X Y i k s r t u (l.setIfInBounds s true) b (w.setCells g 0 X.toList):=by
 obtain ⟨h1,hne,a2,b2,a3,b3⟩:=h.get hi hk ht hu
 rw [hs] at a3
 unfold A2
 rw [getD_set_ne false hsi,getD_set_ne false hsk,getD_set_ne false hsr,getD_set_eq hsl,ht,hu]
 refine ⟨h1.setCells a2 _ _,fun _=>⟨g,rfl,a2,?_⟩,fun _=>⟨g',rfl,b2,b3.setCells_far (Ne.symm hne) _ _⟩,fun _ _ e=>hne (by cases e; rfl)⟩
 have h9:=Blk.over a3 X.toList (by simpa using hX.symm)
 rw [Array.toArray_toList] at h9
 exact h9
theorem A2.put2 (h:A2 w0 ty Z X Y i k s r t u l b w) {g g':Nat} (hi:l.getD i false=true) (hk:l.getD k false=true) (ht:b.tmps[t]?=some (.pointer (some ⟨g,0,none⟩))) (hu:b.tmps[u]?=some (.pointer (some ⟨g',0,none⟩))) (hs:l.getD r false=false) (hsl:r < l.size) (hsi:r ≠ i) (hsk:r ≠ k) (hsr:r ≠ s) (hX:Y.size=Z.size) :
  A2 w0 ty Z X Y i k s r t u (l.setIfInBounds r true) b (w.setCells g' 0 Y.toList):=by
 obtain ⟨h1,hne,a2,b2,a3,b3⟩:=h.get hi hk ht hu
 rw [hs] at b3
 unfold A2
 rw [getD_set_ne false hsi,getD_set_ne false hsk,getD_set_ne false hsr,getD_set_eq hsl,ht,hu]
 refine ⟨h1.setCells b2 _ _,fun _=>⟨g,rfl,a2,a3.setCells_far hne _ _⟩,fun _=>⟨g',rfl,b2,?_⟩,fun _ _ e=>hne (by cases e; rfl)⟩
 have h9:=Blk.over b3 Y.toList (by simpa using hX.symm)
 rw [Array.toArray_toList] at h9
 exact h9
end
section
variable {P:Program} {ops:Array Oper} {F:Array Bool → Act → World → Prop}
theorem doesF_load {o:Oper} {a:Act} (hw:Region.wanted o (yielded ops a.tmps)=true) (ty:TypeId) (x:Operand) (ho:o.op=.load ty x) (b off:Nat) (hx:a.eval x=.pointer (some ⟨b,off,none⟩)) (cs:List Value) (d:TypeDesc)
  (hc:∀ l b' w,F l b' w → w.rangeAt b off cs) (hu:P.underlying ty=some d) (hd:d.isRow=true) (hi:(P.info? ty).map (·.size)=some cs.length):DoesF P ops F o (.agg cs.toArray) a :=
 .inl ⟨hw,fun l b' w hF=>by
  unfold execOp
  simp only [ho,hx,Instr.loadAt,Instr.sureAddr,Sem.run_bind,Sem.run_pure,Result.andThen_ok,run_loadVar_mid w b off ty cs d (hc l b' w hF) hu hd hi]⟩
end
theorem RgAt.range {w:World} {b off:Nat} {c:List Rg} (h:RgAt w (some ⟨b,off,none⟩) c) {k:Nat} (hk:k < c.length) {x:Rg} (hx:x=c.getD k default):w.rangeAt b (off + k * 11) [.int .i64 x.op,.int .i64 x.d,.int .i64 x.a,.int .i64 x.b,.int .i64 x.ty.base,.int .i64 x.ty.bits,.string x.ty.name,.bool x.ty.opt,.bool x.ty.err,.string x.name,.slice x.A x.args.length x.cap]:=by
 subst hx
 intro j v hv
 obtain ⟨b',off',he,hb,hc⟩:=h.top (by omega)
 cases he
 have hj:j < 11:=(List.getElem?_eq_some_iff.1 hv).1
 have h2:=hc k j hk hj
 rw [Nat.add_assoc]
 rw [h2,← hv]
 match j,hj with
 | 0,_ | 1,_ | 2,_ | 3,_ | 4,_ | 5,_ | 6,_ | 7,_ | 8,_ | 9,_ | 10,_=>rfl
theorem idx_inj {sz i k j j0:Nat} (hj:j < sz) (hj0:j0 < sz) (h:k * sz + j0=i * sz + j):i=k∧j=j0:=by
 rcases Nat.lt_trichotomy i k with e | e | e
 ·have:=Nat.mul_le_mul_right sz (show i + 1 ≤ k from e)
  rw [Nat.succ_mul] at this
  omega
 ·subst e
  exact ⟨rfl,by omega⟩
 ·have:=Nat.mul_le_mul_right sz (show k + 1 ≤ i from e)
  rw [Nat.succ_mul] at this
  omega
section
variable {α:Type}
def recCells (sz:Nat) (C:α → Nat → Value) (c:List α):List Value:=c.flatMap fun x=>(List.range sz).map (C x)
theorem recCells_cons (sz:Nat) (C:α → Nat → Value) (x:α) (c:List α):recCells sz C (x :: c)=(List.range sz).map (C x) ++ recCells sz C c:=by unfold recCells; rw [List.flatMap_cons]
theorem recCells_append (sz:Nat) (C:α → Nat → Value) (c d:List α):recCells sz C (c ++ d)=recCells sz C c ++ recCells sz C d:=by unfold recCells; rw [List.flatMap_append]
theorem recCells_len (sz:Nat) (C:α → Nat → Value) (c:List α):(recCells sz C c).length=c.length * sz:=by
 induction c with
 | nil=>simp [recCells]
 | cons x c ih=>rw [recCells_cons,List.length_append,ih,List.length_cons,Nat.succ_mul]; simp; omega
theorem recCells_ones {sz:Nat} {C:α → Nat → Value} (h:∀ x j,(C x j).oneCell'=true) (c:List α):∀ u ∈ recCells sz C c,u.oneCell'=true:=by
 intro u hu
 unfold recCells at hu
 obtain ⟨x,_,hu⟩:=List.mem_flatMap.1 hu
 obtain ⟨j,_,rfl⟩:=List.mem_map.1 hu
 exact h x j
variable [Inhabited α]
theorem recCells_get {sz:Nat} {C:α → Nat → Value} (c:List α) (k j:Nat) (hk:k < c.length) (hj:j < sz):(recCells sz C c)[k * sz + j]?=some (C (c.getD k default) j):=by
 induction c generalizing k with
 | nil=>simp at hk
 | cons x c ih =>
  rw [recCells_cons]
  cases k with
  | zero =>
   rw [List.getElem?_append_left (by simp; omega)]
   simp [hj]
  | succ k =>
   rw [Nat.succ_mul,List.getElem?_append_right (by simp; omega)]
   have:=ih k (by simpa using hk)
   rw [show k * sz + sz + j - ((List.range sz).map (C x)).length=k * sz + j by simp; omega,this]
   simp
def RecRow (w:World) (g:Nat) (t:TypeId) (sz:Nat) (C:α → Nat → Value) (c:List α):Prop:=∃ cur:Array Value,Blk w g t cur∧c.length * sz ≤ cur.size∧∀ k j,k < c.length → j < sz → cur[k * sz + j]?=some (C (c.getD k default) j)
variable {w w':World} {g:Nat} {t:TypeId} {sz:Nat} {C:α → Nat → Value} {c:List α}
theorem RecRow.lt (h:RecRow w g t sz C c):g < w.heap.size:=by
 obtain ⟨cur,hb,_⟩:=h
 exact hb.lt
theorem RecRow.ext (h:RecRow w g t sz C c) (x:Ext w w'):RecRow w' g t sz C c:=by
 obtain ⟨cur,hb,r⟩:=h
 exact ⟨cur,hb.ext x,r⟩
theorem RecRow.grown {row:Option Nat} (h:RecRow w g t sz C c) (x:w.grownBy w' row) (hne:some g ≠ row):RecRow w' g t sz C c:=by
 obtain ⟨cur,hb,r⟩:=h
 exact ⟨cur,(x.block g hb.lt hne).trans hb,r⟩
theorem RecRow.far (h:RecRow w g t sz C c) {p:Addr} (hp:g ≠ p.block) (u:Value):RecRow (w.setCell p u) g t sz C c:=by
 obtain ⟨cur,hb,r⟩:=h
 exact ⟨cur,hb.far hp u,r⟩
theorem RecRow.keep (h:RecRow w g t sz C c) (e:w'.heap[g]?=w.heap[g]?):RecRow w' g t sz C c:=by
 obtain ⟨cur,hb,r⟩:=h
 exact ⟨cur,e.trans hb,r⟩
theorem RecRow.cell (h:RecRow w g t sz C c) {k j:Nat} (hk:k < c.length) (hj:j < sz):w.cell? ⟨g,k * sz + j,none⟩=some (C (c.getD k default) j):=by
 obtain ⟨cur,hb,hs,hc⟩:=h
 rw [hb.cell,hc k j hk hj]
theorem RecRow.at_ (h:RecRow w g t sz C c):At w (some ⟨g,0,none⟩) c.length sz (fun i j=>C (c.getD i default) j):=by
 refine fun hpos=>⟨g,0,rfl,h.lt,fun i j hi hj=>?_⟩
 rw [Nat.zero_add]
 exact h.cell hi hj
theorem RecRow.frozen (h:RecRow w g t sz C c) (i:Nat):w.frozen? ⟨g,i,none⟩=false:=by
 obtain ⟨cur,hb,_⟩:=h
 exact hb.frozen i
theorem RecRow.set_ (h:RecRow w g t sz C c) {k j0:Nat} (hk:k < c.length) (hj0:j0 < sz) {u:Value} {x':α} (hx:∀ j,j < sz → C x' j=if j=j0 then u else C (c.getD k default) j):RecRow (w.setCell ⟨g,k * sz + j0,none⟩ u) g t sz C (c.set k x'):=by
 obtain ⟨cur,hb,hs,hc⟩:=h
 refine ⟨_,hb.set_ (k * sz + j0) _,by simpa using hs,fun i j hi hj=>?_⟩
 have hi':i < c.length:=by simpa using hi
 rw [Array.getElem?_setIfInBounds]
 by_cases e:i=k
 ·subst e
  have e2:(c.set i x').getD i default=x':=by simp [List.getD,hk]
  rw [e2,hx j hj]
  by_cases e3:j=j0
  ·subst e3
   have:=Nat.mul_le_mul_right sz (show i + 1 ≤ c.length from hk)
   rw [Nat.succ_mul] at this
   rw [if_pos rfl,if_pos (by omega),if_pos rfl]
  ·rw [if_neg (by omega),if_neg e3,hc i j hi' hj]
 ·have e2:(c.set k x').getD i default=c.getD i default:=by
   simp only [List.getD,List.getElem?_set_ne (fun e4=>e e4.symm)]
  rw [e2,if_neg (fun e3=>e (idx_inj hj hj0 e3).1),hc i j hi' hj]
omit [Inhabited α] in
theorem recOne_get {x:α} {j:Nat} (hj:j < sz):((List.range sz).map (C x))[j]?=some (C x j):=by simp [hj]
theorem RecRow.there (h:RecRow w g t sz C c) {k:Nat} (hk:k < c.length):w.there g (k * sz) sz:=by
 intro j hj
 exact ⟨by rw [h.cell hk hj]; rfl,h.frozen _⟩
theorem RecRow.put (h:RecRow w g t sz C c) {k:Nat} (hk:k < c.length) (x':α):RecRow (w.setCells g (k * sz) ((List.range sz).map (C x'))) g t sz C (c.set k x'):=by
 obtain ⟨cs,hb,hs,hc⟩:=h
 have hkk:k * sz + sz ≤ cs.size:=by
  have:=Nat.mul_le_mul_right sz (show k + 1 ≤ c.length from hk)
  rw [Nat.succ_mul] at this
  omega
 obtain ⟨cs',h1,h2,h3,h4⟩:=Blk.setCells ((List.range sz).map (C x')) (k * sz) w cs hb (by simp; omega)
 refine ⟨cs',h1,by rw [h2]; simpa using hs,fun i j hi hj=>?_⟩
 have hi':i < c.length:=by simpa using hi
 by_cases e:i=k
 ·subst e
  have e2:(c.set i x').getD i default=x':=by simp [List.getD,hk]
  rw [e2,h4 j (by simp; omega),recOne_get hj]
 ·have e2:(c.set k x').getD i default=c.getD i default:=by
   simp only [List.getD,List.getElem?_set_ne (fun e4=>e e4.symm)]
  rw [e2,h3 _ ?_,hc i j hi' hj]
  rw [List.length_map,List.length_range]
  rcases Nat.lt_or_gt_of_ne e with h5 | h5
  ·have:=Nat.mul_le_mul_right sz (show i + 1 ≤ k from h5)
   rw [Nat.succ_mul] at this
   omega
  ·have:=Nat.mul_le_mul_right sz (show k + 1 ≤ i from h5)
   rw [Nat.succ_mul] at this
   omega
theorem RecRow.cells_far (h:RecRow w g t sz C c) {k:Nat} (hk:g ≠ k) (o:Nat) (vs:List Value):RecRow (w.setCells k o vs) g t sz C c:=h.keep (setCells_out k vs o w g hk)
theorem RecRow.same {β:Type} [Inhabited β] {D:β → Nat → Value} {d:List β} (h:RecRow w g t sz C c) (hl:d.length=c.length) (hd:∀ k j,k < c.length → j < sz → D (d.getD k default) j=C (c.getD k default) j):RecRow w g t sz D d:=by
 obtain ⟨cur,hb,hs,hc⟩:=h
 exact ⟨cur,hb,by rw [hl]; exact hs,fun k j hk hj=>by rw [hd k j (by omega) hj]; exact hc k j (by omega) hj⟩
theorem own_rec {base:Nat} {v:Value} (h:w.ownsRow base t sz v c.length (recCells sz C c)) (hpos:0 < c.length):∃ g cap,v=.slice (some ⟨g,0,none⟩) c.length cap∧base ≤ g∧RecRow w g t sz C c:=by
 rcases h.2 with ⟨_,e⟩ | ⟨g,cap,cur,rfl,hb,hg,hn,hc,hs,ht⟩
 ·omega
 ·refine ⟨g,cap,rfl,hb,cur,hg,by rw [hs]; exact Nat.mul_le_mul_right _ hn,fun k j hk hj=>?_⟩
  have h1:=recCells_get (C:=C) c k j hk hj
  have h2:k * sz + j < c.length * sz:=by
   have:=Nat.mul_le_mul_right sz (show k + 1 ≤ c.length from hk)
   rw [Nat.succ_mul] at this
   omega
  rw [← ht,List.getElem?_take_of_lt h2] at h1
  simpa using h1
theorem own_rec_at {base:Nat} {v:Value} (h:w.ownsRow base t sz v c.length (recCells sz C c)):∃ A cap,v=.slice A c.length cap∧At w A c.length sz (fun i j=>C (c.getD i default) j):=by
 rcases Nat.eq_zero_or_pos c.length with h0 | hpos
 ·rcases h.2 with ⟨rfl,_⟩ | ⟨g,cap,cur,rfl,_⟩
  ·exact ⟨none,0,by rw [h0],fun h=>by omega⟩
  ·exact ⟨_,cap,rfl,fun h=>by omega⟩
 ·obtain ⟨g,cap,hv,_,hr⟩:=own_rec h hpos
  exact ⟨_,cap,hv,hr.at_⟩
theorem news_rec {b o:Nat} (h:∀ i j,i < c.length → j < sz → w.cell? ⟨b,o + (i * sz + j),none⟩=some (C (c.getD i default) j)):∀ j u,(recCells sz C c)[j]?=some u → w.cell? ((⟨b,o,none⟩:Addr).add j)=some u:=by
 intro j u hu
 have hj:j < c.length * sz:=by rw [← recCells_len sz C]; exact (List.getElem?_eq_some_iff.1 hu).1
 have hsz:0 < sz:=by
  rcases Nat.eq_zero_or_pos sz with h0 | h0
  ·subst h0; omega
  ·exact h0
 have e:j=j / sz * sz + j % sz:=by rw [Nat.mul_comm]; exact (Nat.div_add_mod j sz).symm
 have hd:j / sz < c.length:=by rw [Nat.div_lt_iff_lt_mul hsz]; exact hj
 have h1:=recCells_get (C:=C) c (j / sz) (j % sz) hd (Nat.mod_lt _ hsz)
 rw [← e,hu] at h1
 have h2:=h (j / sz) (j % sz) hd (Nat.mod_lt _ hsz)
 rw [← e] at h2
 rw [Addr.add_lit,h2,← h1]
end
end Go.Proofs.YtcoookehfhhhdaaGreatDoor.c
