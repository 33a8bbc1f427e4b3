/- Memory of a run in regs.machine.call, and laws on loads and stores of values in regions that draw their order. No condition. What copy does with values, and a row of values behind it. No condition. Loads in regions that end with a store of a value; where an instruction leads to. No condition. The list of args that a call makes, and the memory while a run calls another one. No condition. -/
import Derived.Test.YtcoookehfhhhdaaGreatDoorGconv
import Derived.Test.YtcoookehfhhhdaaGreatDoorTy
import Derived.Test.YtcoookehfhhhdaaGreatDoorFlow
import Derived.Great.Walk
import Derived.Laws.AppendOwn
namespace Go.Proofs.YtcoookehfhhhdaaGreatDoor.c
open Go.RowKit
set_option linter.unusedVariables false
set_option linter.unusedSimpArgs false
def enC:En → Array Value
 | .ret v=>(Value.int .i64 0 :: .int .i64 0 :: v.cells).toArray
 | .stop y=>(Value.int .i64 1 :: .int .i64 y :: (default:Val).cells).toArray
 | .long=>(Value.int .i64 2 :: .int .i64 0 :: (default:Val).cells).toArray
theorem enC_size (e:En):(enC e).size=15:=by cases e <;> rfl
theorem enC_one (e:En):∀ u ∈ (enC e).toList,u.oneCell'=true:=by
 intro u hu
 cases e with
 | ret v =>
  rcases List.mem_cons.1 hu with rfl | hu
  ·rfl
  ·rcases List.mem_cons.1 hu with rfl | hu
   ·rfl
   ·exact v.one u hu
 | stop y =>
  rcases List.mem_cons.1 hu with rfl | hu
  ·rfl
  ·rcases List.mem_cons.1 hu with rfl | hu
   ·rfl
   ·exact Val.one _ u hu
 | long =>
  rcases List.mem_cons.1 hu with rfl | hu
  ·rfl
  ·rcases List.mem_cons.1 hu with rfl | hu
   ·rfl
   ·exact Val.one _ u hu
def endZ:Array Value:=(Value.int .i64 0 :: .int .i64 0 :: (default:Val).cells).toArray
def rfA (f:Rf):Array Value:=#[.string f.name,.int .i64 f.params,.int .i64 f.regs,.int .i64 f.ty.base,.int .i64 f.ty.bits,.string f.ty.name,.bool f.ty.opt,.bool f.ty.err,.slice f.A f.code.length f.cap]
def rgA (x:Rg):Array Value:=#[.int .i64 x.op,.int .i64 x.d,.int .i64 x.a,.int .i64 x.b,.int .i64 x.ty.base,.int .i64 x.ty.bits,.string x.ty.name,.bool x.ty.opt,.bool x.ty.err,.string x.name,.slice x.A x.args.length x.cap]
def zvals (n:Nat):Array Value:=((List.range (n * 13)).map fun k=>valC default (k % 13)).toArray
theorem VRow.zeros {w:World} {g:Nat} {t:TypeId} {n:Nat} (h:Blk w g t (zvals n)):VRow w g t n (fun _=>default):=by
 refine VRow.zero h (by simp [zvals]) fun k hk=>?_
 simp [zvals,hk]
/-! ### worlds but for one block -/
theorem setCells_keep (g:Nat):∀ (vs:List Value) (o:Nat) (w:World),(w.setCells g o vs).os=w.os∧(w.setCells g o vs).tape=w.tape∧(w.setCells g o vs).output=w.output
 | [],_,_=>⟨rfl,rfl,rfl⟩
 | v :: r,o,w=>by rw [World.setCells]; exact setCells_keep g r (o + 1) _
theorem cells_grown (w:World) (g o:Nat) (vs:List Value):w.grownBy (w.setCells g o vs) (some g):=by
 obtain ⟨h1,h2,h3⟩:=setCells_keep g vs o w
 exact ⟨h1,h2,h3,by rw [setCells_size]; exact Nat.le_refl _,fun i _ hne=>setCells_out g vs o w i (fun e=>hne (by rw [e]))⟩
theorem row_grown (w:World) (g:Nat) (cs:Array Value):w.grownBy (w.setRow g cs) (some g):=⟨rfl,rfl,rfl,by simp,fun i _ hne=>setRow_other w g i cs (fun e=>hne (by rw [e]))⟩
theorem cell_grown (w:World) (gn k:Nat) (u:Value):w.grownBy (w.setCell ⟨gn,k,none⟩ u) (some gn):=⟨rfl,rfl,rfl,by simp,fun i hi hne=>Below.heap_setCell w _ _ i (fun e=>hne (by rw [e]))⟩
theorem ext_grown {w w':World} (x:Ext w w') (row:Option Nat):w.grownBy w' row:=⟨x.out.os,x.out.tape,x.out.output,x.out.size,fun i hi _=>x.out.block i hi⟩
theorem grownT {a b c:World} {r:Option Nat} (h:a.grownBy b r) (k:b.grownBy c r):a.grownBy c r :=
 ⟨k.os.trans h.os,k.tape.trans h.tape,k.output.trans h.output,Nat.le_trans h.size k.size,fun i hi hne=>(k.block i (Nat.lt_of_lt_of_le hi h.size) hne).trans (h.block i hi hne)⟩
theorem grown_off {a b c:World} {m g:Nat} (h:a.grownBy b (some m)) (k:b.grownBy c (some g)) (hg:a.heap.size ≤ g):a.grownBy c (some m) :=
 ⟨k.os.trans h.os,k.tape.trans h.tape,k.output.trans h.output,Nat.le_trans h.size k.size,fun i hi hne=>(k.block i (Nat.lt_of_lt_of_le hi h.size) (fun e=>by have:=Option.some.inj e; omega)).trans (h.block i hi hne)⟩
theorem Blk.grownM {w w':World} {g m:Nat} {t:TypeId} {cs:Array Value} (h:Blk w g t cs) (x:w.grownBy w' (some m)) (hne:g ≠ m):Blk w' g t cs:=(x.block g h.lt (fun e=>hne (Option.some.inj e))).trans h
/-! ### the memory of a call -/
structure CCon (w0:World) (m zo zf zr zs:Nat):Prop where
 lt:m < w0.heap.size
 o:w0.heap.size ≤ zo
 f:zo < zf
 r:zf < zr
 s:zr < zs
structure CSt (w0:World) (m zo zf zr zs:Nat) (A:Option Addr) (len cap:Nat) (ck:Bool) (f:Rf) (s:Nat) (R S:Nat → Val) (w:World):Prop where
 gr:w0.grownBy w (some m)
 mm:Blk w m 139 #[.slice A len cap,.bool ck,.int .i64 s]
 oo:Blk w zo 99 endZ
 ff:Blk w zf 45 (rfA f)
 rr:VRow w zr 177 6 R
 ss:VRow w zs 178 300 S
section
variable {w0 w w':World} {m zo zf zr zs:Nat} {A:Option Addr} {len cap:Nat} {ck:Bool} {f:Rf} {s:Nat} {R S:Nat → Val}
theorem CSt.ext' (h:CSt w0 m zo zf zr zs A len cap ck f s R S w) (x:Ext w w'):CSt w0 m zo zf zr zs A len cap ck f s R S w':=⟨grownT h.gr (ext_grown x _),h.mm.ext x,h.oo.ext x,h.ff.ext x,h.rr.ext x,h.ss.ext x⟩
theorem CSt.turn (c:CCon w0 m zo zf zr zs) (h:CSt w0 m zo zf zr zs A len cap ck f s R S w) {s':Nat} (x:w.grownBy w' (some m)) (hm:Blk w' m 139 #[.slice A len cap,.bool ck,.int .i64 s']):CSt w0 m zo zf zr zs A len cap ck f s' R S w':=by
 obtain ⟨c1,c2,c3,c4,c5⟩:=c
 exact ⟨grownT h.gr x,hm,h.oo.grownM x (by omega),h.ff.grownM x (by omega),h.rr.grown x (fun e=>by have:=Option.some.inj e; omega),h.ss.grown x (fun e=>by have:=Option.some.inj e; omega)⟩
theorem CSt.step (c:CCon w0 m zo zf zr zs) (h:CSt w0 m zo zf zr zs A len cap ck f s R S w) (u:Nat):CSt w0 m zo zf zr zs A len cap ck f u R S (w.setCell ⟨m,2,none⟩ (.int .i64 u)) :=
 h.turn c (cell_grown w m 2 _) (h.mm.set_ 2 _)
theorem CSt.setR (c:CCon w0 m zo zf zr zs) (h:CSt w0 m zo zf zr zs A len cap ck f s R S w) {i:Nat} (hi:i < 6) (v:Val):CSt w0 m zo zf zr zs A len cap ck f s (upd R i v) S (w.setCells zr (i * 13) v.cells):=by
 obtain ⟨c1,c2,c3,c4,c5⟩:=c
 exact ⟨grown_off h.gr (cells_grown w zr _ _) (by omega),h.mm.setCells_far (by omega) _ _,h.oo.setCells_far (by omega) _ _,h.ff.setCells_far (by omega) _ _,h.rr.put hi v,h.ss.cells_far (by omega) _ _⟩
theorem CSt.setS (c:CCon w0 m zo zf zr zs) (h:CSt w0 m zo zf zr zs A len cap ck f s R S w) {i:Nat} (hi:i < 300) (v:Val):CSt w0 m zo zf zr zs A len cap ck f s R (upd S i v) (w.setCells zs (i * 13) v.cells):=by
 obtain ⟨c1,c2,c3,c4,c5⟩:=c
 exact ⟨grown_off h.gr (cells_grown w zs _ _) (by omega),h.mm.setCells_far (by omega) _ _,h.oo.setCells_far (by omega) _ _,h.ff.setCells_far (by omega) _ _,h.rr.cells_far (by omega) _ _,h.ss.put hi v⟩
end
/-! ### moves in a region that draws its order -/
section
variable {P:Program} {ops:Array Oper} {F:Array Bool → World → Prop}
theorem does_load {o:Oper} {a:Act} (hw:Region.wanted o (yielded ops a.tmps)=true) (ty:TypeId) (x:Operand) (ho:o.op=.load ty x) (b off:Nat) (hx:a.eval x=.pointer (some ⟨b,off,none⟩)) (cs:List Value) (d:TypeDesc)
  (hc:∀ l w,F l w → w.rangeAt b off cs) (hu:P.underlying ty=some d) (hd:d.isRow=true) (hi:(P.info? ty).map (·.size)=some cs.length):DoesIf P ops F o (.agg cs.toArray) a :=
 .inl ⟨hw,fun l w hF=>by
  unfold execOp
  simp only [ho,hx,Instr.loadAt,Instr.sureAddr,Sem.run_bind,Sem.run_pure,Result.andThen_ok,run_loadVar_mid w b off ty cs d (hc l w hF) hu hd hi]⟩
theorem stores_mid {i:Nat} {o:Oper} {a:Act} (hw:Region.wanted o (yielded ops a.tmps)=true) (ty:TypeId) (x y:Operand) (ho:o.op=.store ty x y) (b off:Nat) (cells:Array Value) (hx:a.eval x=.pointer (some ⟨b,off,none⟩)) (hy:a.eval y=.agg cells)
  (ht:∀ l w,F l w → w.there b off cells.size) (hi:(P.info? ty).map (·.size)=some cells.size) (h1:cells.all (·.oneCell')=true) (hF:∀ l w,F l w → F (l.setIfInBounds i true) (w.setCells b off cells.toList)):StoresIf P ops F i o a:=by
 refine ⟨hw,fun l w h=>⟨_,w.setCells b off cells.toList,?_,.inr rfl,hF l w h⟩⟩
 unfold execOp
 simp only [ho,hx,hy,Instr.storeAt,Instr.sureAddr,Sem.run_bind,Sem.run_pure,Result.andThen_ok,run_storeVar_mid w b off ty cells (ht l w h) hi h1]
end
theorem Val.all_one (v:Val):v.cells.toArray.all (·.oneCell')=true:=all_oneCell_toArray v.one
def RSt (n k:Nat) (w0:World) (m zo zf zr zs:Nat) (A:Option Addr) (len cap:Nat) (ck:Bool) (f:Rf) (s:Nat) (R S R2 S2:Nat → Val) (bx:Nat) (x:Rg) (l:Array Bool) (w:World):Prop :=
 l.size=n∧CSt w0 m zo zf zr zs A len cap ck f s (if l.getD k false=true then R2 else R) (if l.getD k false=true then S2 else S) w∧Blk w bx 83 (rgA x)
section
variable {n k:Nat} {w0 w w':World} {m zo zf zr zs:Nat} {A:Option Addr} {len cap:Nat} {ck:Bool} {f:Rf} {s:Nat} {R S R2 S2:Nat → Val} {bx:Nat} {x:Rg}
theorem RSt.same {i:Nat} (h:i ≠ k) (l:Array Bool) (w:World):RSt n k w0 m zo zf zr zs A len cap ck f s R S R2 S2 bx x (l.setIfInBounds i true) w ↔ RSt n k w0 m zo zf zr zs A len cap ck f s R S R2 S2 bx x l w:=by
 unfold RSt
 rw [getD_set_ne false h,Array.size_setIfInBounds]
theorem RSt.start (h:CSt w0 m zo zf zr zs A len cap ck f s R S w) (hx:Blk w bx 83 (rgA x)) {l:Array Bool} (hl:l.size=n) (hk:l.getD k false=false):RSt n k w0 m zo zf zr zs A len cap ck f s R S R2 S2 bx x l w.drew :=
 ⟨hl,by rw [hk]; exact h.ext' (Ext.refl w).drew,hx.drew⟩
theorem RSt.ext' {l:Array Bool} (h:RSt n k w0 m zo zf zr zs A len cap ck f s R S R2 S2 bx x l w) (xx:Ext w w'):RSt n k w0 m zo zf zr zs A len cap ck f s R S R2 S2 bx x l w':=⟨h.1,h.2.1.ext' xx,h.2.2.ext xx⟩
theorem RSt.done {l:Array Bool} (h:RSt n k w0 m zo zf zr zs A len cap ck f s R S R2 S2 bx x l w) (hk:l.getD k false=true):CSt w0 m zo zf zr zs A len cap ck f s R2 S2 w∧Blk w bx 83 (rgA x):=by
 have h2:=h.2
 rw [hk] at h2
 exact h2
theorem RSt.putR (c:CCon w0 m zo zf zr zs) (hb:zs < bx) {i:Nat} (hi:i < 6) (v:Val) (hkn:k < n) {l:Array Bool} (h:RSt n k w0 m zo zf zr zs A len cap ck f s R S (upd R i v) S bx x l w):RSt n k w0 m zo zf zr zs A len cap ck f s R S (upd R i v) S bx x (l.setIfInBounds k true) (w.setCells zr (i * 13) v.cells):=by
 have hk:(l.setIfInBounds k true).getD k false=true:=by have:=h.1; simp [Array.getD,this,hkn]
 refine ⟨by rw [Array.size_setIfInBounds]; exact h.1,?_,h.2.2.setCells_far (by have:=c.s; omega) _ _⟩
 rw [hk,if_pos rfl,if_pos rfl]
 have h2:=(h.2.1.setR c hi v)
 have e:upd (if l.getD k false=true then upd R i v else R) i v=upd R i v:=by
  funext j
  unfold upd
  by_cases e:j=i
  ·rw [if_pos e,if_pos e]
  ·rw [if_neg e,if_neg e]
   by_cases e2:l.getD k false=true
   ·rw [if_pos e2,if_neg e]
   ·rw [if_neg e2]
 rw [e,ite_self] at h2
 exact h2
theorem RSt.putS (c:CCon w0 m zo zf zr zs) (hb:zs < bx) {i:Nat} (hi:i < 300) (v:Val) (hkn:k < n) {l:Array Bool} (h:RSt n k w0 m zo zf zr zs A len cap ck f s R S R (upd S i v) bx x l w):RSt n k w0 m zo zf zr zs A len cap ck f s R S R (upd S i v) bx x (l.setIfInBounds k true) (w.setCells zs (i * 13) v.cells):=by
 have hk:(l.setIfInBounds k true).getD k false=true:=by have:=h.1; simp [Array.getD,this,hkn]
 refine ⟨by rw [Array.size_setIfInBounds]; exact h.1,?_,h.2.2.setCells_far (by omega) _ _⟩
 rw [hk,if_pos rfl,if_pos rfl]
 have h2:=(h.2.1.setS c hi v)
 have e:upd (if l.getD k false=true then upd S i v else S) i v=upd S i v:=by
  funext j
  unfold upd
  by_cases e:j=i
  ·rw [if_pos e,if_pos e]
  ·rw [if_neg e,if_neg e]
   by_cases e2:l.getD k false=true
   ·rw [if_pos e2,if_neg e]
   ·rw [if_neg e2]
 rw [e,ite_self] at h2
 exact h2
end
def flatV (av:List Val):List Value:=av.flatMap Val.cells
theorem flatV_len (av:List Val):(flatV av).length=av.length * 13:=by
 unfold flatV
 induction av with
 | nil=>rfl
 | cons v t ih=>rw [List.flatMap_cons,List.length_append,ih,List.length_cons,Val.len]; omega
theorem flatV_get (av:List Val):∀ (i j:Nat),i < av.length → j < 13 → (flatV av)[i * 13 + j]?=some (valC (av.getD i default) j):=by
 unfold flatV
 induction av with
 | nil=>intro i j h; simp at h
 | cons v t ih =>
  intro i j hi hj
  rw [List.flatMap_cons]
  cases i with
  | zero =>
   rw [List.getElem?_append_left (by rw [Val.len]; omega),Nat.zero_mul,Nat.zero_add,Val.get _ hj]
   rfl
  | succ i =>
   rw [List.length_cons] at hi
   rw [List.getElem?_append_right (by rw [Val.len]; omega),Val.len,show (i + 1) * 13 + j - 13=i * 13 + j by omega,ih i j (by omega) hj]
   rfl
theorem flatV_one (av:List Val):∀ u ∈ flatV av,u.oneCell'=true:=by
 intro u hu
 unfold flatV at hu
 rw [List.mem_flatMap] at hu
 obtain ⟨v,_,hu⟩:=hu
 exact v.one u hu
theorem ValsAt.cells {w:World} {b off:Nat} {av:List Val} (h:ValsAt w (some ⟨b,off,none⟩) av):∀ j v,(flatV av)[j]?=some v → w.cell? ((⟨b,off,none⟩:Addr).add j)=some v:=by
 intro j v hv
 have hj:j < av.length * 13:=by rw [← flatV_len]; exact (List.getElem?_eq_some_iff.1 hv).1
 obtain ⟨b',off',he,hb,hc⟩:=h (by omega)
 cases he
 have e:j=j / 13 * 13 + j % 13:=by omega
 have hv2:=flatV_get av (j / 13) (j % 13) (by omega) (by omega)
 rw [← e] at hv2
 rw [hv2] at hv
 cases hv
 have h2:=hc (j / 13) (j % 13) (by omega) (by omega)
 rw [← e] at h2
 rw [Addr.add_mid]
 exact h2
theorem run_copy_vals {P:Program} (w:World) (dT sT ty elem:TypeId) (b dLen dCap:Nat) (vA:Option Addr) (sCap:Nat) (av:List Val)
  (hu:P.underlying dT=some (.slice elem)) (hs:(P.info? elem).map (·.size)=some 13) (hn:av.length ≤ dLen) (hA:ValsAt w vA av) (ht:w.there b 0 (dLen * 13)) :
  (Builtin.copy_ #[dT,sT] ty #[.slice (some ⟨b,0,none⟩) dLen dCap,.slice vA av.length sCap]).run P w=.ok (goInt av.length) (w.setCells b 0 (flatV av)):=by
 have hm:Nat.min av.length dLen=av.length:=Nat.min_eq_left hn
 have hst:=run_storeCells_cells (P:=P) b 0 (flatV av) 0 w (fun j hj=>by rw [flatV_len] at hj; simpa using (ht j (by omega)).1) (fun j hj=>by rw [flatV_len] at hj; simpa using (ht j (by omega)).2) (flatV_one av)
 cases hq:P.info? elem with
 | none=>simp [hq] at hs
 | some i =>
  have hi:i.size=13:=by simpa [hq] using hs
  cases vA with
  | none =>
   have h0:av=[]:=by
    cases av with
    | nil=>rfl
    | cons v t=>obtain ⟨b',off',he,_⟩:=hA (by simp); cases he
   subst h0
   have hl:∀ (x:Addr),(loadCells x 0).run P w=.ok #[] w:=fun x=>by simpa using run_loadCells_list (P:=P) w x [] (by simp)
   simp [Builtin.copy_,run_underlying hu,Builtin.lenOf,Builtin.firstCells,sizeOf,typeInfo,hq,hi,storeCells,hl,flatV,World.setCells]
  | some a =>
   obtain ⟨ab,ao,asp⟩:=a
   cases av with
   | nil =>
    have hl:∀ (x:Addr),(loadCells x 0).run P w=.ok #[] w:=fun x=>by simpa using run_loadCells_list (P:=P) w x [] (by simp)
    simp [Builtin.copy_,run_underlying hu,Builtin.lenOf,Builtin.firstCells,sizeOf,typeInfo,hq,hi,storeCells,hl,flatV,World.setCells]
   | cons v t =>
    obtain ⟨b',off',he,hb,hc⟩:=hA (by simp)
    cases he
    have hl:=run_loadCells_list (P:=P) w ⟨ab,ao,none⟩ (flatV (v :: t)) (ValsAt.cells hA)
    rw [flatV_len,List.length_cons] at hl
    rw [List.length_cons] at hm
    simp only [Nat.add_zero] at hst
    simp [Builtin.copy_,run_underlying hu,Builtin.lenOf,Builtin.firstCells,sizeOf,typeInfo,hq,hi,hm,hl,hst]
theorem VRow.fill {w:World} {g:Nat} {t:TypeId} {n:Nat} {F:Nat → Val} (h:VRow w g t n F) (av:List Val) (hn:av.length ≤ n):VRow (w.setCells g 0 (flatV av)) g t n (fun i=>if i < av.length then av.getD i default else F i):=by
 obtain ⟨cs,hb,hs,hc⟩:=h
 obtain ⟨cs',h1,h2,h3,h4⟩:=Blk.setCells (flatV av) 0 w cs hb (by rw [flatV_len]; omega)
 refine ⟨cs',h1,by rw [h2,hs],fun i j hi hj=>?_⟩
 by_cases e:i < av.length
 ·have:=h4 (i * 13 + j) (by rw [flatV_len]; omega)
  rw [Nat.zero_add] at this
  rw [this,flatV_get av i j e hj]
  simp only [if_pos e]
 ·rw [h3 _ (by rw [flatV_len]; omega),hc i j hi hj]
  simp only [if_neg e]
theorem VRow.whole {w:World} {g:Nat} {t:TypeId} {n:Nat} {F:Nat → Val} (h:VRow w g t n F):w.there g 0 (n * 13):=by
 intro j hj
 have e:0 + j=j / 13 * 13 + j % 13:=by omega
 rw [e]
 have:=h.there (i:=j / 13) (by omega) (j % 13) (by omega)
 exact this
theorem zero6:Tryz.zeroCells177 = zvals 6:=by kernel_rfl
theorem zero300:Tryz.zeroCells178 = zvals 300:=by kernel_rfl
theorem CSt.fillS {w0 w:World} {m zo zf zr zs:Nat} {A:Option Addr} {len cap:Nat} {ck:Bool} {f:Rf} {s:Nat} {R:Nat → Val} (c:CCon w0 m zo zf zr zs) (h:CSt w0 m zo zf zr zs A len cap ck f s R (fun _=>default) w) (av:List Val) (hn:av.length ≤ 300) :
  CSt w0 m zo zf zr zs A len cap ck f s R (fun i=>av.getD i default) (w.setCells zs 0 (flatV av)):=by
 obtain ⟨c1,c2,c3,c4,c5⟩:=c
 refine ⟨grown_off h.gr (cells_grown w zs _ _) (by omega),h.mm.setCells_far (by omega) _ _,h.oo.setCells_far (by omega) _ _,h.ff.setCells_far (by omega) _ _,h.rr.cells_far (by omega) _ _,(h.ss.fill av hn).same fun i hi=>?_⟩
 by_cases e:i < av.length
 ·simp only [if_pos e]
 ·simp only [if_neg e]
  rw [List.getD,List.getElem?_eq_none (by omega)]
  rfl
theorem rgA_cells {w:World} {b:Nat} {x:Rg} (h:Blk w b 83 (rgA x)):w.cell? ⟨b,0,none⟩=some (.int .i64 x.op)∧w.cell? ⟨b,1,none⟩=some (.int .i64 x.d)∧w.cell? ⟨b,2,none⟩=some (.int .i64 x.a)∧w.cell? ⟨b,3,none⟩=some (.int .i64 x.b)∧w.cell? ⟨b,4,none⟩=some (.int .i64 x.ty.base)∧w.cell? ⟨b,5,none⟩=some (.int .i64 x.ty.bits) ∧
  w.cell? ⟨b,6,none⟩=some (.string x.ty.name)∧w.cell? ⟨b,7,none⟩=some (.bool x.ty.opt)∧w.cell? ⟨b,8,none⟩=some (.bool x.ty.err)∧w.cell? ⟨b,9,none⟩=some (.string x.name)∧w.cell? ⟨b,10,none⟩=some (.slice x.A x.args.length x.cap):=by
 refine ⟨?_,?_,?_,?_,?_,?_,?_,?_,?_,?_,?_⟩ <;> exact (h.cell _).trans rfl
theorem CSt.ret {w0 w:World} {m zo zf zr zs:Nat} {A:Option Addr} {len cap:Nat} {ck:Bool} {f:Rf} {s:Nat} {R S:Nat → Val} (c:CCon w0 m zo zf zr zs) (h:CSt w0 m zo zf zr zs A len cap ck f s R S w) (en:En) :
  Ending.returned (.agg (enC en))=.returned (.agg (enC en))∧w0.grownBy (w.setRow zo (enC en)) (some m)∧Blk (w.setRow zo (enC en)) m 139 #[.slice A len cap,.bool ck,.int .i64 s]:=by
 obtain ⟨c1,c2,c3,c4,c5⟩:=c
 exact ⟨rfl,grown_off h.gr (row_grown w zo _) (by omega),(setRow_other _ _ _ _ (by omega)).trans h.mm⟩
section
variable {P:Program} {ops:Array Oper} {F:Array Bool → World → Prop}
theorem does_loadK {k:Nat} {o:Oper} {a:Act} (hw:Region.wanted o (yielded ops a.tmps)=true) (ty:TypeId) (x:Operand) (ho:o.op=.load ty x) (b off:Nat) (hx:a.eval x=.pointer (some ⟨b,off,none⟩)) (cs:List Value) (d:TypeDesc)
  (hc:∀ l w,l.getD k false=false → F l w → w.rangeAt b off cs) (hu:P.underlying ty=some d) (hd:d.isRow=true) (hi:(P.info? ty).map (·.size)=some cs.length):DoesK P ops k F o (.agg cs.toArray) a :=
 .inl ⟨hw,fun l w hk hF=>by
  unfold execOp
  simp only [ho,hx,Instr.loadAt,Instr.sureAddr,Sem.run_bind,Sem.run_pure,Result.andThen_ok,run_loadVar_mid w b off ty cs d (hc l w hk hF) hu hd hi]⟩
end
section
variable {n k:Nat} {w0 w w':World} {m zo zf zr zs:Nat} {A:Option Addr} {len cap:Nat} {ck:Bool} {f:Rf} {s:Nat} {R S R2 S2:Nat → Val} {bx:Nat} {x:Rg}
theorem RSt.before {l:Array Bool} (hk:l.getD k false=false) (h:RSt n k w0 m zo zf zr zs A len cap ck f s R S R2 S2 bx x l w):CSt w0 m zo zf zr zs A len cap ck f s R S w:=by
 have h2:=h.2.1
 rw [hk] at h2
 exact h2
end
theorem enters_goperate:Enters 124 := Enters.of Tryz.func124 (by kernel_rfl) (by kernel_rfl)
theorem info_val:(Tryz.prog.info? 50).map (fun i=>(i.zero,i.size,i.bytes))=some (some (.agg (default:Val).cells.toArray),13,112):=by kernel_rfl
theorem info_val_parts:∃ i,Tryz.prog.info? 50 = some i∧i.zero=some (.agg (default:Val).cells.toArray)∧i.size=13∧i.bytes=112:=by
 have h:=info_val
 cases hq:Tryz.prog.info? 50 with
 | none=>rw [hq] at h; cases h
 | some i =>
  rw [hq] at h
  have h2:=Option.some.inj h
  exact ⟨i,rfl,congrArg (·.1) h2,congrArg (·.2.1) h2,congrArg (·.2.2) h2⟩
theorem flatV_snoc (av:List Val) (v:Val):flatV (av ++ [v])=flatV av ++ v.cells:=by
 unfold flatV
 rw [List.flatMap_append]
 simp
theorem own_vals {w:World} {base:Nat} {v:Value} {n:Nat} {av:List Val} (h:w.ownsRow base 50 13 v n (flatV av)) (hn:n=av.length):∃ A c,v=.slice A n c∧ValsAt w A av:=by
 obtain ⟨A,c,hv,ha⟩:=own_slice h
 refine ⟨A,c,hv,fun hp=>?_⟩
 obtain ⟨b,off,hA,hb,hc⟩:=ha (by omega)
 refine ⟨b,off,hA,hb,fun i j hi hj=>?_⟩
 rw [hc i j (by omega) hj]
 have:=flatV_get av i j hi hj
 show some ((flatV av).getD (i * 13 + j) undef)=_
 rw [List.getD,this]
 rfl
section
variable {w0 w w':World} {m zo zf zr zs:Nat} {A:Option Addr} {len cap:Nat} {ck:Bool} {f:Rf} {s:Nat} {R S:Nat → Val}
theorem CSt.off (c:CCon w0 m zo zf zr zs) (h:CSt w0 m zo zf zr zs A len cap ck f s R S w) {row:Option Nat} (x:w.grownBy w' row) (hr:∀ k,row=some k → zs < k):CSt w0 m zo zf zr zs A len cap ck f s R S w':=by
 obtain ⟨c1,c2,c3,c4,c5⟩:=c
 have ne:∀ g,g ≤ zs → some g ≠ row:=fun g hg e=>by have:=hr g e.symm; omega
 have blk:∀ {g:Nat} {t:TypeId} {cs:Array Value},Blk w g t cs → g ≤ zs → Blk w' g t cs:=fun h hg=>(x.block _ h.lt (ne _ hg)).trans h
 refine ⟨⟨x.os.trans h.gr.os,x.tape.trans h.gr.tape,x.output.trans h.gr.output,Nat.le_trans h.gr.size x.size,fun i hi hne=>(x.block i (Nat.lt_of_lt_of_le hi h.gr.size) (ne i (by omega))).trans (h.gr.block i hi hne)⟩,blk h.mm (by omega),blk h.oo (by omega),blk h.ff (by omega),h.rr.grown x (ne _ (by omega)),h.ss.grown x (ne _ (by omega))⟩
end
def KSt (w0:World) (m zo zf zr zs:Nat) (A:Option Addr) (len cap:Nat) (ck:Bool) (f:Rf) (s t:Nat) (R S:Nat → Val) (bx:Nat) (x:Rg) (vA:Option Addr) (av:List Val) (en:En) (l:Array Bool) (b:Act) (w:World):Prop :=
 l.size=14∧CSt w0 m zo zf zr zs A len cap ck f (if l.getD 11 false=true then t else s) R S w∧Blk w bx 83 (rgA x)∧(l.getD 11 false=false → l.getD 13 false=false → ValsAt w vA av) ∧
  (l.getD 12 false=true → ∃ g,b.tmps[18]?=some (.pointer (some ⟨g,0,none⟩))∧bx < g∧Blk w g 99 (if l.getD 13 false=true then enC en else endZ))
theorem put_other (b:Act) (t:Nat) (v:Value) (h:t ≠ 18):(b.put (some t) v).tmps[18]?=b.tmps[18]?:=by
 show (b.tmps.setIfInBounds t v)[18]?=_
 rw [Array.getElem?_setIfInBounds,if_neg h]
section
variable {w0 w w':World} {m zo zf zr zs:Nat} {A:Option Addr} {len cap:Nat} {ck:Bool} {f:Rf} {s t:Nat} {R S:Nat → Val} {bx:Nat} {x:Rg} {vA:Option Addr} {av:List Val} {en:En}
theorem KSt.same {i k:Nat} (h1:i ≠ 11) (h2:i ≠ 12) (h3:i ≠ 13) (hk:k ≠ 18) (v:Value) (l:Array Bool) (b:Act) (w:World):KSt w0 m zo zf zr zs A len cap ck f s t R S bx x vA av en (l.setIfInBounds i true) (b.put (some k) v) w ↔ KSt w0 m zo zf zr zs A len cap ck f s t R S bx x vA av en l b w:=by
 unfold KSt
 rw [getD_set_ne false h1,getD_set_ne false h2,getD_set_ne false h3,Array.size_setIfInBounds,put_other b k v hk]
theorem KSt.start (h:CSt w0 m zo zf zr zs A len cap ck f s R S w) (hx:Blk w bx 83 (rgA x)) (hv:ValsAt w vA av) (b:Act):KSt w0 m zo zf zr zs A len cap ck f s t R S bx x vA av en #[false,false,false,false,false,false,false,false,false,false,false,false,false,false] b w.drew :=
 ⟨rfl,h.ext' (Ext.refl w).drew,hx.drew,fun _ _=>hv.ext (Ext.refl w).drew,fun h=>(by cases h)⟩
theorem KSt.ext' {l:Array Bool} {b:Act} (h:KSt w0 m zo zf zr zs A len cap ck f s t R S bx x vA av en l b w) (xx:Ext w w'):KSt w0 m zo zf zr zs A len cap ck f s t R S bx x vA av en l b w':=by
 obtain ⟨h1,h2,h3,h4,h5⟩:=h
 refine ⟨h1,h2.ext' xx,h3.ext xx,fun e e3=>(h4 e e3).ext xx,fun e=>?_⟩
 obtain ⟨g,g1,g2,g3⟩:=h5 e
 exact ⟨g,g1,g2,g3.ext xx⟩
theorem KSt.turn (c:CCon w0 m zo zf zr zs) (hb:zs < bx) {l:Array Bool} {b:Act} {k:Nat} {v:Value} (hk:k ≠ 18) (h:KSt w0 m zo zf zr zs A len cap ck f s t R S bx x vA av en l b w) (g:w.grownBy w' (some m)) (hm:Blk w' m 139 #[.slice A len cap,.bool ck,.int .i64 t]) :
  KSt w0 m zo zf zr zs A len cap ck f s t R S bx x vA av en (l.setIfInBounds 11 true) (b.put (some k) v) w':=by
 obtain ⟨h1,h2,h3,h4,h5⟩:=h
 have e1:(l.setIfInBounds 11 true).getD 11 false=true:=by simp [Array.getD,h1]
 have c1:=c.lt
 have c2:=c.o
 have c3:=c.f
 have c4:=c.r
 have c5:=c.s
 refine ⟨by rw [Array.size_setIfInBounds]; exact h1,?_,h3.grownM g (by omega),fun e=>(by rw [e1] at e; cases e),fun e=>?_⟩
 ·rw [if_pos e1]
  exact h2.turn c g hm
 ·rw [getD_set_ne false (by decide)] at e ⊢
  obtain ⟨q,g1,g2,g3⟩:=h5 e
  exact ⟨q,by rw [put_other b k v hk]; exact g1,g2,g3.grownM g (by omega)⟩
theorem KSt.room (hb:zs < bx) {l:Array Bool} {b:Act} (hsz:18 < b.tmps.size) (h13:l.getD 13 false=false) (h:KSt w0 m zo zf zr zs A len cap ck f s t R S bx x vA av en l b w) :
  KSt w0 m zo zf zr zs A len cap ck f s t R S bx x vA av en (l.setIfInBounds 12 true) (b.put (some 18) (.pointer (some ⟨w.heap.size,0,none⟩))) (w.alloc (.cells endZ 99)):=by
 obtain ⟨h1,h2,h3,h4,h5⟩:=h
 refine ⟨by rw [Array.size_setIfInBounds]; exact h1,?_,h3.alloc _,fun e e3=>?_,fun _=>⟨w.heap.size,?_,h3.lt,?_⟩⟩
 ·rw [getD_set_ne false (by decide)]
  exact h2.ext' ((Ext.refl w).alloc _)
 ·rw [getD_set_ne false (by decide)] at e
  exact (h4 e h13).ext ((Ext.refl w).alloc _)
 ·show (b.tmps.setIfInBounds 18 _)[18]?=_
  rw [Array.getElem?_setIfInBounds,if_pos rfl,if_pos hsz]
 ·rw [getD_set_ne false (by decide),h13]
  exact Blk.new _ _ _
theorem KSt.store (c:CCon w0 m zo zf zr zs) (hb:zs < bx) {l:Array Bool} {b:Act} {g:Nat} (h:KSt w0 m zo zf zr zs A len cap ck f s t R S bx x vA av en l b w) (h12:l.getD 12 false=true) (hg:b.tmps[18]?=some (.pointer (some ⟨g,0,none⟩))) :
  KSt w0 m zo zf zr zs A len cap ck f s t R S bx x vA av en (l.setIfInBounds 13 true) b (w.setCells g 0 (enC en).toList):=by
 obtain ⟨h1,h2,h3,h4,h5⟩:=h
 obtain ⟨q,g1,g2,g3⟩:=h5 h12
 rw [hg] at g1
 cases g1
 have e1:(l.setIfInBounds 13 true).getD 13 false=true:=by simp [Array.getD,h1]
 refine ⟨by rw [Array.size_setIfInBounds]; exact h1,?_,h3.setCells_far (by omega) _ _,fun e e3=>(by rw [e1] at e3; cases e3),fun _=>⟨g,hg,g2,?_⟩⟩
 ·rw [getD_set_ne false (by decide)]
  exact h2.off c (cells_grown w g _ _) (fun k e=>by have:=Option.some.inj e; omega)
 ·rw [if_pos e1]
  have h6:(endZ).size=(enC en).toList.length:=by cases en <;> rfl
  have g4:Blk w g 99 endZ ∨ Blk w g 99 (enC en):=by
   by_cases e3:l.getD 13 false=true
   ·rw [if_pos e3] at g3; exact .inr g3
   ·rw [if_neg e3] at g3; exact .inl g3
  rcases g4 with g4 | g4
  ·exact g4.over _ h6
  ·exact g4.over _ (by simp)
end
theorem Blk.there0 {w:World} {g:Nat} {t:TypeId} {cs:Array Value} (h:Blk w g t cs) {n:Nat} (hn:n=cs.size):w.there g 0 n:=by
 subst hn
 intro j hj
 rw [Nat.zero_add,h.cell]
 exact ⟨by rw [Array.getElem?_eq_getElem hj]; rfl,h.frozen j⟩
theorem enC_all (en:En):(enC en).all (·.oneCell')=true:=Array.all_eq_true_iff_forall_mem.2 (fun v hv=>enC_one en v (by simpa using hv))
theorem KSt.space {w0 w:World} {m zo zf zr zs:Nat} {A:Option Addr} {len cap:Nat} {ck:Bool} {f:Rf} {s t:Nat} {R S:Nat → Val} {bx:Nat} {x:Rg} {vA:Option Addr} {av:List Val} {en:En} {l:Array Bool} {b:Act} {g:Nat} (h:KSt w0 m zo zf zr zs A len cap ck f s t R S bx x vA av en l b w) (h12:l.getD 12 false=true) (hg:b.tmps[18]?=some (.pointer (some ⟨g,0,none⟩))):w.there g 0 (enC en).size:=by
 obtain ⟨h1,h2,h3,h4,h5⟩:=h
 obtain ⟨q,g1,g2,g3⟩:=h5 h12
 rw [hg] at g1
 cases g1
 refine g3.there0 ?_
 rw [enC_size]
 by_cases e3:l.getD 13 false=true
 ·rw [if_pos e3,enC_size]
 ·rw [if_neg e3]; rfl
theorem step_put1 {P:Program} {ops:Array Oper} {Q:Exit → Act → World → Prop} {md:Region.Mode} {F:Array Bool → Act → World → Prop} {i fuel:Nat} {oi:Oper} {listed:Array Bool} {a:Act} (hi:ops[i]?=some oi) (di:oi.dst=none) (hw:Region.wanted oi (yielded ops a.tmps)=true)
  (ty:TypeId) (x y:Operand) (ho:oi.op=.store ty x y) (b off:Nat) (cells:Array Value) (hx:a.eval x=.pointer (some ⟨b,off,none⟩)) (hy:a.eval y=.agg cells) (ht:∀ w,F listed a w → w.there b off cells.size) (hz:(P.info? ty).map (·.size)=some cells.size) (h1:cells.all (·.oneCell')=true)
  (hF:∀ w,F listed a w → F (listed.setIfInBounds i true) a (w.setCells b off cells.toList)) (h:wpAnyU P md ops Q F fuel (listed.setIfInBounds i true) a):StepF P md ops Q F fuel i listed a:=by
 intro w hFw
 have hr:(execOp a.eval oi).run P w=.ok .skip (w.setCells b off cells.toList):=by
  unfold execOp
  simp only [ho,hx,hy,Instr.storeAt,Instr.sureAddr,Sem.run_bind,Sem.run_pure,Result.andThen_ok,run_storeVar_mid w b off ty cells (ht w hFw) hz h1]
 unfold wpOp
 simp only [hi,hw,if_true,Oper.wp,hr,Oper.upon,di]
 exact .inl ⟨hF w hFw,h⟩
end Go.Proofs.YtcoookehfhhhdaaGreatDoor.c
