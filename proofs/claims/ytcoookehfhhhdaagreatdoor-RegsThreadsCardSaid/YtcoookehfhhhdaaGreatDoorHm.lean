/- Memory of a run in the reference's machine.call, and laws on it. No condition. Memory of the reference's played: the machine while its rooms are made, and a list of values under construction. No condition. -/
import Derived.Test.YtcoookehfhhhdaaGreatDoorEqb
import Derived.Test.YtcoookehfhhhdaaGreatDoorGm
import Derived.Test.YtcoookehfhhhdaaGreatDoorGconv
import Derived.Test.YtcoookehfhhhdaaGreatDoorFlow
namespace Go.Proofs.YtcoookehfhhhdaaGreatDoor.c
open Go.RowKit
set_option linter.unusedVariables false
set_option linter.unusedSimpArgs false
structure HK where
 A:Option Addr
 len:Nat
 cap:Nat
 ck:Bool
 f:Rf
 nr:Nat
 ns:Nat
 B:Option Addr
 bn:Nat
 bc:Nat
def zeroV:Array Value:=(default:Val).cells.toArray
def enV:En → Val
 | .ret v=>v
 | _=>default
def enE:En → Int × Int
 | .ret _=>(0,0)
 | .stop y=>(1,y)
 | .long=>(2,0)
def enB:En → Bool
 | .ret _=>true
 | _=>false
structure HSt (w0:World) (m zo zf zr zs:Nat) (K:HK) (s:Nat) (e y:Int) (R S:Nat → Val) (w:World):Prop where
 gr:w0.grownBy w (some m)
 mm:HMem w m K.A K.len K.cap K.ck s e y K.B K.bn K.bc
 oo:Blk w zo 50 zeroV
 ff:Blk w zf 45 (rfA K.f)
 rr:VRow w zr 50 K.nr R
 ss:VRow w zs 50 K.ns S
section
variable {w0 w w':World} {m zo zf zr zs:Nat} {K:HK} {s:Nat} {e y:Int} {R S:Nat → Val}
theorem HSt.ext' (h:HSt w0 m zo zf zr zs K s e y R S w) (x:Ext w w'):HSt w0 m zo zf zr zs K s e y R S w':=⟨grownT h.gr (ext_grown x _),h.mm.ext x,h.oo.ext x,h.ff.ext x,h.rr.ext x,h.ss.ext x⟩
theorem HSt.turn (c:CCon w0 m zo zf zr zs) (h:HSt w0 m zo zf zr zs K s e y R S w) {s':Nat} {e' y':Int} (x:w.grownBy w' (some m)) (hm:HMem w' m K.A K.len K.cap K.ck s' e' y' K.B K.bn K.bc):HSt w0 m zo zf zr zs K s' e' y' R S w':=by
 obtain ⟨c1,c2,c3,c4,c5⟩:=c
 exact ⟨grownT h.gr x,hm,h.oo.grownM x (by omega),h.ff.grownM x (by omega),h.rr.grown x (fun e9=>by have:=Option.some.inj e9; omega),h.ss.grown x (fun e9=>by have:=Option.some.inj e9; omega)⟩
theorem HSt.step (c:CCon w0 m zo zf zr zs) (h:HSt w0 m zo zf zr zs K s e y R S w) (u:Nat):HSt w0 m zo zf zr zs K u e y R S (w.setCell ⟨m,2,none⟩ (.int .i64 u)) :=
 h.turn c (cell_grown w m 2 _) (h.mm.steps u)
theorem HSt.setR (c:CCon w0 m zo zf zr zs) (h:HSt w0 m zo zf zr zs K s e y R S w) {i:Nat} (hi:i < K.nr) (v:Val):HSt w0 m zo zf zr zs K s e y (upd R i v) S (w.setCells zr (i * 13) v.cells):=by
 obtain ⟨c1,c2,c3,c4,c5⟩:=c
 exact ⟨grown_off h.gr (cells_grown w zr _ _) (by omega),Blk.setCells_far h.mm (by omega) _ _,h.oo.setCells_far (by omega) _ _,h.ff.setCells_far (by omega) _ _,h.rr.put hi v,h.ss.cells_far (by omega) _ _⟩
theorem HSt.setS (c:CCon w0 m zo zf zr zs) (h:HSt w0 m zo zf zr zs K s e y R S w) {i:Nat} (hi:i < K.ns) (v:Val):HSt w0 m zo zf zr zs K s e y R (upd S i v) (w.setCells zs (i * 13) v.cells):=by
 obtain ⟨c1,c2,c3,c4,c5⟩:=c
 exact ⟨grown_off h.gr (cells_grown w zs _ _) (by omega),Blk.setCells_far h.mm (by omega) _ _,h.oo.setCells_far (by omega) _ _,h.ff.setCells_far (by omega) _ _,h.rr.cells_far (by omega) _ _,h.ss.put hi v⟩
end
def QSt (n k:Nat) (w0:World) (m zo zf zr zs:Nat) (K:HK) (s:Nat) (e y:Int) (R S R2 S2:Nat → Val) (bx:Nat) (x:Rg) (l:Array Bool) (w:World):Prop :=
 l.size=n∧HSt w0 m zo zf zr zs K s e y (if l.getD k false=true then R2 else R) (if l.getD k false=true then S2 else S) w∧Blk w bx 83 (rgA x)
section
variable {n k:Nat} {w0 w w':World} {m zo zf zr zs:Nat} {K:HK} {s:Nat} {e y:Int} {R S R2 S2:Nat → Val} {bx:Nat} {x:Rg}
theorem QSt.same {i:Nat} (h:i ≠ k) (l:Array Bool) (w:World):QSt n k w0 m zo zf zr zs K s e y R S R2 S2 bx x (l.setIfInBounds i true) w ↔ QSt n k w0 m zo zf zr zs K s e y R S R2 S2 bx x l w:=by
 unfold QSt
 rw [getD_set_ne false h,Array.size_setIfInBounds]
theorem QSt.start (h:HSt w0 m zo zf zr zs K s e y R S w) (hx:Blk w bx 83 (rgA x)) {l:Array Bool} (hl:l.size=n) (hk:l.getD k false=false):QSt n k w0 m zo zf zr zs K s e y R S R2 S2 bx x l w.drew :=
 ⟨hl,by rw [hk]; exact h.ext' (Ext.refl w).drew,hx.drew⟩
theorem QSt.ext' {l:Array Bool} (h:QSt n k w0 m zo zf zr zs K s e y R S R2 S2 bx x l w) (xx:Ext w w'):QSt n k w0 m zo zf zr zs K s e y R S R2 S2 bx x l w':=⟨h.1,h.2.1.ext' xx,h.2.2.ext xx⟩
theorem QSt.done {l:Array Bool} (h:QSt n k w0 m zo zf zr zs K s e y R S R2 S2 bx x l w) (hk:l.getD k false=true):HSt w0 m zo zf zr zs K s e y R2 S2 w∧Blk w bx 83 (rgA x):=by
 have h2:=h.2
 rw [hk] at h2
 exact h2
theorem QSt.putR (c:CCon w0 m zo zf zr zs) (hb:zs < bx) {i:Nat} (hi:i < K.nr) (v:Val) (hkn:k < n) {l:Array Bool} (h:QSt n k w0 m zo zf zr zs K s e y R S (upd R i v) S bx x l w):QSt n k w0 m zo zf zr zs K s e y R S (upd R i v) S bx x (l.setIfInBounds k true) (w.setCells zr (i * 13) v.cells):=by
 have hk:(l.setIfInBounds k true).getD k false=true:=by have:=h.1; simp [Array.getD,this,hkn]
 refine ⟨by rw [Array.size_setIfInBounds]; exact h.1,?_,h.2.2.setCells_far (by have:=c.s; omega) _ _⟩
 rw [hk,if_pos rfl,if_pos rfl]
 have h2:=(h.2.1.setR c hi v)
 have e9:upd (if l.getD k false=true then upd R i v else R) i v=upd R i v:=by
  funext j
  unfold upd
  by_cases e8:j=i
  ·rw [if_pos e8,if_pos e8]
  ·rw [if_neg e8,if_neg e8]
   by_cases e2:l.getD k false=true
   ·rw [if_pos e2,if_neg e8]
   ·rw [if_neg e2]
 rw [e9,ite_self] at h2
 exact h2
theorem QSt.putS (c:CCon w0 m zo zf zr zs) (hb:zs < bx) {i:Nat} (hi:i < K.ns) (v:Val) (hkn:k < n) {l:Array Bool} (h:QSt n k w0 m zo zf zr zs K s e y R S R (upd S i v) bx x l w):QSt n k w0 m zo zf zr zs K s e y R S R (upd S i v) bx x (l.setIfInBounds k true) (w.setCells zs (i * 13) v.cells):=by
 have hk:(l.setIfInBounds k true).getD k false=true:=by have:=h.1; simp [Array.getD,this,hkn]
 refine ⟨by rw [Array.size_setIfInBounds]; exact h.1,?_,h.2.2.setCells_far (by omega) _ _⟩
 rw [hk,if_pos rfl,if_pos rfl]
 have h2:=(h.2.1.setS c hi v)
 have e9:upd (if l.getD k false=true then upd S i v else S) i v=upd S i v:=by
  funext j
  unfold upd
  by_cases e8:j=i
  ·rw [if_pos e8,if_pos e8]
  ·rw [if_neg e8,if_neg e8]
   by_cases e2:l.getD k false=true
   ·rw [if_pos e2,if_neg e8]
   ·rw [if_neg e2]
 rw [e9,ite_self] at h2
 exact h2
end
section
variable {n k:Nat} {w0 w w':World} {m zo zf zr zs:Nat} {K:HK} {s:Nat} {e y:Int} {R S R2 S2:Nat → Val} {bx:Nat} {x:Rg}
theorem QSt.before {l:Array Bool} (hk:l.getD k false=false) (h:QSt n k w0 m zo zf zr zs K s e y R S R2 S2 bx x l w):HSt w0 m zo zf zr zs K s e y R S w:=by
 have h2:=h.2.1
 rw [hk] at h2
 exact h2
end
section
variable {w0 w w':World} {m zo zf zr zs:Nat} {K:HK} {s:Nat} {e y:Int} {R S:Nat → Val}
theorem HSt.off (c:CCon w0 m zo zf zr zs) (h:HSt w0 m zo zf zr zs K s e y R S w) {row:Option Nat} (x:w.grownBy w' row) (hr:∀ k,row=some k → zs < k):HSt w0 m zo zf zr zs K s e y R S w':=by
 obtain ⟨c1,c2,c3,c4,c5⟩:=c
 have ne:∀ g,g ≤ zs → some g ≠ row:=fun g hg e9=>by have:=hr g e9.symm; omega
 have blk:∀ {g:Nat} {t:TypeId} {cs:Array Value},Blk w g t cs → g ≤ zs → Blk w' g t cs:=fun h hg=>(x.block _ h.lt (ne _ hg)).trans h
 refine ⟨⟨x.os.trans h.gr.os,x.tape.trans h.gr.tape,x.output.trans h.gr.output,Nat.le_trans h.gr.size x.size,fun i hi hne=>(x.block i (Nat.lt_of_lt_of_le hi h.gr.size) (ne i (by omega))).trans (h.gr.block i hi hne)⟩,blk h.mm (by omega),blk h.oo (by omega),blk h.ff (by omega),h.rr.grown x (ne _ (by omega)),h.ss.grown x (ne _ (by omega))⟩
end
def LSt (w0:World) (m zo zf zr zs:Nat) (K:HK) (s t:Nat) (R S:Nat → Val) (bx:Nat) (x:Rg) (vA:Option Addr) (av:List Val) (en:En) (l:Array Bool) (b:Act) (w:World):Prop :=
 l.size=18∧HSt w0 m zo zf zr zs K (if l.getD 11 false=true then t else s) (if l.getD 11 false=true then (enE en).1 else 0) (if l.getD 11 false=true then (enE en).2 else 0) R S w∧Blk w bx 83 (rgA x)∧(l.getD 11 false=false → l.getD 16 false=false → ValsAt w vA av) ∧
  (l.getD 15 false=true → ∃ g,b.tmps[23]?=some (.pointer (some ⟨g,0,none⟩))∧bx < g∧Blk w g 50 (if l.getD 16 false=true then (enV en).cells.toArray else zeroV))
theorem put_other2 (b:Act) (t:Nat) (v:Value) (h:t ≠ 23):(b.put (some t) v).tmps[23]?=b.tmps[23]?:=by
 show (b.tmps.setIfInBounds t v)[23]?=_
 rw [Array.getElem?_setIfInBounds,if_neg h]
section
variable {w0 w w':World} {m zo zf zr zs:Nat} {K:HK} {s t:Nat} {R S:Nat → Val} {bx:Nat} {x:Rg} {vA:Option Addr} {av:List Val} {en:En}
theorem LSt.same {i k:Nat} (h1:i ≠ 11) (h2:i ≠ 15) (h3:i ≠ 16) (hk:k ≠ 23) (v:Value) (l:Array Bool) (b:Act) (w:World):LSt w0 m zo zf zr zs K s t R S bx x vA av en (l.setIfInBounds i true) (b.put (some k) v) w ↔ LSt w0 m zo zf zr zs K s t R S bx x vA av en l b w:=by
 unfold LSt
 rw [getD_set_ne false h1,getD_set_ne false h2,getD_set_ne false h3,Array.size_setIfInBounds,put_other2 b k v hk]
theorem LSt.start (h:HSt w0 m zo zf zr zs K s 0 0 R S w) (hx:Blk w bx 83 (rgA x)) (hv:ValsAt w vA av) (b:Act):LSt w0 m zo zf zr zs K s t R S bx x vA av en #[false,false,false,false,false,false,false,false,false,false,false,false,false,false,false,false,false,false] b w.drew :=
 ⟨rfl,h.ext' (Ext.refl w).drew,hx.drew,fun _ _=>hv.ext (Ext.refl w).drew,fun h=>(by cases h)⟩
theorem LSt.ext' {l:Array Bool} {b:Act} (h:LSt w0 m zo zf zr zs K s t R S bx x vA av en l b w) (xx:Ext w w'):LSt w0 m zo zf zr zs K s t R S bx x vA av en l b w':=by
 obtain ⟨h1,h2,h3,h4,h5⟩:=h
 refine ⟨h1,h2.ext' xx,h3.ext xx,fun e e3=>(h4 e e3).ext xx,fun e=>?_⟩
 obtain ⟨g,g1,g2,g3⟩:=h5 e
 exact ⟨g,g1,g2,g3.ext xx⟩
theorem LSt.turn (c:CCon w0 m zo zf zr zs) (hb:zs < bx) {l:Array Bool} {b:Act} {k:Nat} {v:Value} (hk:k ≠ 23) (h:LSt w0 m zo zf zr zs K s t R S bx x vA av en l b w) (g:w.grownBy w' (some m)) (hm:HMem w' m K.A K.len K.cap K.ck t (enE en).1 (enE en).2 K.B K.bn K.bc) :
  LSt w0 m zo zf zr zs K s t R S bx x vA av en (l.setIfInBounds 11 true) (b.put (some k) v) w':=by
 obtain ⟨h1,h2,h3,h4,h5⟩:=h
 have e1:(l.setIfInBounds 11 true).getD 11 false=true:=by simp [Array.getD,h1]
 have c1:=c.lt
 have c2:=c.o
 have c3:=c.f
 have c4:=c.r
 have c5:=c.s
 refine ⟨by rw [Array.size_setIfInBounds]; exact h1,?_,h3.grownM g (by omega),fun e=>(by rw [e1] at e; cases e),fun e=>?_⟩
 ·rw [if_pos e1,if_pos e1,if_pos e1]
  exact h2.turn c g hm
 ·rw [getD_set_ne false (by decide)] at e ⊢
  obtain ⟨q,g1,g2,g3⟩:=h5 e
  exact ⟨q,by rw [put_other2 b k v hk]; exact g1,g2,g3.grownM g (by omega)⟩
theorem LSt.room (hb:zs < bx) {l:Array Bool} {b:Act} (hsz:23 < b.tmps.size) (h13:l.getD 16 false=false) (h:LSt w0 m zo zf zr zs K s t R S bx x vA av en l b w) :
  LSt w0 m zo zf zr zs K s t R S bx x vA av en (l.setIfInBounds 15 true) (b.put (some 23) (.pointer (some ⟨w.heap.size,0,none⟩))) (w.alloc (.cells zeroV 50)):=by
 obtain ⟨h1,h2,h3,h4,h5⟩:=h
 refine ⟨by rw [Array.size_setIfInBounds]; exact h1,?_,h3.alloc _,fun e e3=>?_,fun _=>⟨w.heap.size,?_,h3.lt,?_⟩⟩
 ·rw [getD_set_ne false (by decide)]
  exact h2.ext' ((Ext.refl w).alloc _)
 ·rw [getD_set_ne false (by decide)] at e
  exact (h4 e h13).ext ((Ext.refl w).alloc _)
 ·show (b.tmps.setIfInBounds 23 _)[23]?=_
  rw [Array.getElem?_setIfInBounds,if_pos rfl,if_pos hsz]
 ·rw [getD_set_ne false (by decide),h13]
  exact Blk.new _ _ _
theorem LSt.store (c:CCon w0 m zo zf zr zs) (hb:zs < bx) {l:Array Bool} {b:Act} {g:Nat} (h:LSt w0 m zo zf zr zs K s t R S bx x vA av en l b w) (h12:l.getD 15 false=true) (hg:b.tmps[23]?=some (.pointer (some ⟨g,0,none⟩))) :
  LSt w0 m zo zf zr zs K s t R S bx x vA av en (l.setIfInBounds 16 true) b (w.setCells g 0 (enV en).cells.toArray.toList):=by
 obtain ⟨h1,h2,h3,h4,h5⟩:=h
 obtain ⟨q,g1,g2,g3⟩:=h5 h12
 rw [hg] at g1
 cases g1
 have e1:(l.setIfInBounds 16 true).getD 16 false=true:=by simp [Array.getD,h1]
 refine ⟨by rw [Array.size_setIfInBounds]; exact h1,?_,h3.setCells_far (by omega) _ _,fun e e3=>(by rw [e1] at e3; cases e3),fun _=>⟨g,hg,g2,?_⟩⟩
 ·rw [getD_set_ne false (by decide)]
  exact h2.off c (cells_grown w g _ _) (fun k e=>by have:=Option.some.inj e; omega)
 ·rw [if_pos e1]
  have h6:(zeroV).size=(enV en).cells.toArray.toList.length:=by cases en <;> rfl
  have g4:Blk w g 50 zeroV ∨ Blk w g 50 (enV en).cells.toArray:=by
   by_cases e3:l.getD 16 false=true
   ·rw [if_pos e3] at g3; exact .inr g3
   ·rw [if_neg e3] at g3; exact .inl g3
  rcases g4 with g4 | g4
  ·exact g4.over _ h6
  ·exact g4.over _ (by simp)
end
theorem HSt.ret {w0 w:World} {m zo zf zr zs:Nat} {K:HK} {A:Option Addr} {len cap:Nat} {ck:Bool} {f:Rf} {nr ns:Nat} {B:Option Addr} {bn bc:Nat} {s:Nat} {R S:Nat → Val} (c:CCon w0 m zo zf zr zs) (hK:K=⟨A,len,cap,ck,f,nr,ns,B,bn,bc⟩) (en:En) (h:HSt w0 m zo zf zr zs K s (enE en).1 (enE en).2 R S w) :
  Ending.returned (.tuple #[.agg (enV en).cells.toArray,.bool (enB en)])=.returned (.tuple #[.agg (enV en).cells.toArray,.bool (enB en)])∧w0.grownBy (w.setRow zo (enV en).cells.toArray) (some m)∧HMem (w.setRow zo (enV en).cells.toArray) m A len cap ck s (enE en).1 (enE en).2 B bn bc:=by
 obtain ⟨c1,c2,c3,c4,c5⟩:=c
 subst hK
 exact ⟨rfl,grown_off h.gr (row_grown w zo _) (by omega),(setRow_other _ _ _ _ (by omega)).trans h.mm⟩
theorem LSt.space {w0 w:World} {m zo zf zr zs:Nat} {K:HK} {s t:Nat} {R S:Nat → Val} {bx:Nat} {x:Rg} {vA:Option Addr} {av:List Val} {en:En} {l:Array Bool} {b:Act} {g:Nat} (h:LSt w0 m zo zf zr zs K s t R S bx x vA av en l b w) (h12:l.getD 15 false=true) (hg:b.tmps[23]?=some (.pointer (some ⟨g,0,none⟩))):w.there g 0 (enV en).cells.toArray.size:=by
 obtain ⟨h1,h2,h3,h4,h5⟩:=h
 obtain ⟨q,g1,g2,g3⟩:=h5 h12
 rw [hg] at g1
 cases g1
 refine g3.there0 ?_
 by_cases e3:l.getD 16 false=true
 ·rw [if_pos e3]
 ·rw [if_neg e3]; rfl
theorem RfAt.range {w:World} {b off:Nat} {l:List Rf} (h:RfAt w (some ⟨b,off,none⟩) l) {k:Nat} (hk:k < l.length) {f:Rf} (hf:f=l.getD k default):w.rangeAt b (off + k * 9) (rfA f).toList:=by
 subst hf
 intro j v hv
 obtain ⟨b',off',he,hb,hc⟩:=h.top (by omega)
 cases he
 have hj:j < 9:=(List.getElem?_eq_some_iff.1 hv).1
 rw [Nat.add_assoc,hc k j hk hj]
 rw [← hv]
 match j,hj with
 | 0,_=>rfl
 | 1,_=>rfl
 | 2,_=>rfl
 | 3,_=>rfl
 | 4,_=>rfl
 | 5,_=>rfl
 | 6,_=>rfl
 | 7,_=>rfl
 | 8,_=>rfl
theorem outR_eq {l:List Rf} {nm:ByteArray} {av:List Val} {ck:Bool} {j:Nat} {en:En} {t:Nat} (h0:runE l nm av=0) (hj:indexR l nm=j) (hr:Run l ck (.call 1 j (av.map plainV)) 0 en t):outR l nm av ck=(en,t):=by
 unfold outR
 rw [if_pos h0,hj,Int.toNat_natCast]
 exact runX_eq hr
def outZ:Array Value:=outC (.ret default)
theorem outC_size (e:En):(outC e).size=16:=by cases e <;> rfl
theorem outC_one (e:En):∀ u ∈ (outC e).toList,u.oneCell'=true:=by
 intro u hu
 have h:∀ (a b:Value) (v:Val),a.oneCell'=true → b.oneCell'=true → ∀ u ∈ (a :: v.cells ++ [b,.slice none 0 0]),u.oneCell'=true:=by
  intro a b v ha hb u hu
  rw [List.mem_append,List.mem_cons] at hu
  rcases hu with (rfl | hu) | hu
  ·exact ha
  ·exact v.one u hu
  ·simp at hu
   rcases hu with rfl | rfl
   ·exact hb
   ·rfl
 cases e with
 | ret v=>exact h _ _ v rfl rfl u hu
 | stop y=>exact h _ _ default rfl rfl u hu
 | long=>exact h _ _ default rfl rfl u hu
def roomsL (l:List Rf) (q:Nat):List Value:=(l.take q).map fun f=>Value.int .i64 (roomR f)
theorem roomsL_snoc (l:List Rf) {k:Nat} (hk:k < l.length):roomsL l (k + 1)=roomsL l k ++ [.int .i64 (roomR (l.getD k default))]:=by
 unfold roomsL
 rw [List.take_succ_eq_append_getElem hk,List.map_append]
 simp [List.getD,List.getElem?_eq_getElem hk]
structure PSt (l:List Rf) (A:Option Addr) (len cap:Nat) (ck:Bool) (w0:World) (zo m q:Nat) (B:Option Addr) (bc:Nat) (w:World):Prop where
 ext:Ext w0 w
 lo:w0.heap.size ≤ zo∧zo < m
 oo:Blk w zo 52 outZ
 mm:HMem w m A len cap ck 0 0 0 B q bc
 own:w.ownsRow (m + 1) 3 1 (.slice B q bc) q (roomsL l q)
section
variable {l:List Rf} {A:Option Addr} {len cap:Nat} {ck:Bool} {w0 w w':World} {zo m q:Nat} {B:Option Addr} {bc:Nat}
theorem PSt.ext' (s:PSt l A len cap ck w0 zo m q B bc w) (x:Ext w w'):PSt l A len cap ck w0 zo m q B bc w':=⟨s.ext.trans x,s.lo,s.oo.ext x,s.mm.ext x,own_ext s.own x⟩
theorem PSt.ne (s:PSt l A len cap ck w0 zo m q B bc w):∀ k,(Value.slice B q bc).ownBlock=some k → m < k:=fun k hk=>by have:=own_row s.own k hk; omega
theorem PSt.pushed (s:PSt l A len cap ck w0 zo m q B bc w) (g:w.grownBy w' (Value.slice B q bc).ownBlock) {v':Value} {f:Rf} (hq:q < l.length) (hf:f=l.getD q default) (ow:w'.ownsRow (m + 1) 3 1 v' (q + 1) (roomsL l q ++ [.int .i64 (roomR f)])) :
  ∃ B' bc',v'=.slice B' (q + 1) bc'∧m < w'.heap.size∧w'.cell? ⟨m,5,none⟩=some (.slice B q bc)∧w'.frozen? ⟨m,5,none⟩=false∧PSt l A len cap ck w0 zo m (q + 1) B' bc' (w'.setCell ⟨m,5,none⟩ v'):=by
 subst hf
 rw [← roomsL_snoc l hq] at ow
 obtain ⟨B',bc',hv,_⟩:=own_slice ow
 have hlo:=s.lo
 have hne:=s.ne
 have mm':HMem w' m A len cap ck 0 0 0 B q bc:=(g.block m s.mm.facts.1 (fun e=>by have:=hne m e.symm; omega)).trans s.mm
 have oo':Blk w' zo 52 outZ:=(g.block zo s.oo.lt (fun e=>by have:=hne zo e.symm; omega)).trans s.oo
 have fa:=mm'.facts
 refine ⟨B',bc',hv,fa.1,fa.2.2.2.2.2.2.1,fa.2.2.2.2.2.2.2 5,?_⟩
 refine ⟨(s.ext.grown g fun k e=>by have:=hne k e; omega).setCell (p:=⟨m,5,none⟩) (by show w0.heap.size ≤ m; omega) _,hlo,oo'.far (p:=⟨m,5,none⟩) (by show zo ≠ m; omega) _,?_,?_⟩
 ·rw [hv]
  exact Blk.set_ mm' 5 _
 ·rw [hv] at ow ⊢
  refine ow.kept (cell_grown w' m 5 _) (.inr fun e=>?_)
  have:=own_row ow m e
  omega
theorem PSt.start (w:World):PSt l A len cap ck w w.heap.size (w.heap.size + 1) 0 none 0 ((w.alloc (.cells outZ 52)).alloc (.cells (hmC A len cap ck 0 0 0 none 0 0) 134)) :=
 ⟨exA,⟨Nat.le_refl _,by omega⟩,(Blk.new w _ _).alloc _,by
  have h:=Blk.new (w.alloc (.cells outZ 52)) 134 (hmC A len cap ck 0 0 0 none 0 0)
  rwa [size_alloc] at h,World.ownsRow_nil _ _ _ _⟩
end
theorem put_at (b:Act) (t k:Nat) (v:Value) (h:t ≠ k):(b.put (some t) v).tmps[k]?=b.tmps[k]?:=by
 show (b.tmps.setIfInBounds t v)[k]?=_
 rw [Array.getElem?_setIfInBounds,if_neg h]
structure VSt (l:List Rf) (A:Option Addr) (len cap:Nat) (ck:Bool) (w0:World) (zo m q:Nat) (B:Option Addr) (bc:Nat) (r:Int) (l':Array Bool) (b':Act) (w:World):Prop where
 size:l'.size=15
 ext:Ext w0 w
 lo:w0.heap.size ≤ zo∧zo < m
 oo:Blk w zo 52 outZ
 mm:HMem w m A len cap ck 0 0 0 B q bc
 own:l'.getD 11 false=false → w.ownsRow (m + 1) 3 1 (.slice B q bc) q (roomsL l q)
 lit:l'.getD 11 false=false → l'.getD 10 false=true → ∃ g,b'.tmps[36]?=some (.slice (some ⟨g,0,none⟩) 1 1)∧Blk w g 3 #[.int .i64 r]
 new:l'.getD 11 false=true → ∃ v,b'.tmps[37]?=some v∧w.ownsRow (m + 1) 3 1 v (q + 1) (roomsL l q ++ [.int .i64 r])
section
variable {l:List Rf} {A:Option Addr} {len cap:Nat} {ck:Bool} {w0 w w':World} {zo m q:Nat} {B:Option Addr} {bc:Nat} {r:Int}
theorem VSt.same {i k:Nat} (h1:i ≠ 10) (h3:i ≠ 11) (h2:k ≠ 36) (h4:k ≠ 37) (v:Value) (l':Array Bool) (b':Act) (w:World):VSt l A len cap ck w0 zo m q B bc r (l'.setIfInBounds i true) (b'.put (some k) v) w ↔ VSt l A len cap ck w0 zo m q B bc r l' b' w:=by
 have e1:(l'.setIfInBounds i true).getD 10 false=l'.getD 10 false:=getD_set_ne false h1
 have e2:(l'.setIfInBounds i true).getD 11 false=l'.getD 11 false:=getD_set_ne false h3
 constructor
 ·rintro ⟨a0,a1,a2,a3,a4,a5,a6,a7⟩
  rw [Array.size_setIfInBounds] at a0
  rw [e2] at a5 a6 a7
  rw [e1,put_at b' k 36 v h2] at a6
  rw [put_at b' k 37 v h4] at a7
  exact ⟨a0,a1,a2,a3,a4,a5,a6,a7⟩
 ·rintro ⟨a0,a1,a2,a3,a4,a5,a6,a7⟩
  refine ⟨by rw [Array.size_setIfInBounds]; exact a0,a1,a2,a3,a4,?_,?_,?_⟩
  ·rw [e2]; exact a5
  ·rw [e2,e1,put_at b' k 36 v h2]; exact a6
  ·rw [e2,put_at b' k 37 v h4]; exact a7
theorem VSt.ext' {l':Array Bool} {b':Act} (h:VSt l A len cap ck w0 zo m q B bc r l' b' w) (x:Ext w w'):VSt l A len cap ck w0 zo m q B bc r l' b' w':=by
 obtain ⟨a0,a1,a2,a3,a4,a5,a6,a7⟩:=h
 refine ⟨a0,a1.trans x,a2,a3.ext x,a4.ext x,fun e=>own_ext (a5 e) x,fun e e2=>?_,fun e=>?_⟩
 ·obtain ⟨g,h1,h2⟩:=a6 e e2; exact ⟨g,h1,h2.ext x⟩
 ·obtain ⟨v,h1,h2⟩:=a7 e; exact ⟨v,h1,own_ext h2 x⟩
theorem VSt.start (s:PSt l A len cap ck w0 zo m q B bc w) (b':Act):VSt l A len cap ck w0 zo m q B bc r #[false,false,false,false,false,false,false,false,false,false,false,false,false,false,false] b' w.drew:=by
 have x:Ext w w.drew:=(Ext.refl w).drew
 exact ⟨rfl,s.ext.trans x,s.lo,s.oo.ext x,s.mm.ext x,fun _=>own_ext s.own x,fun _ h=>(by cases h),fun h=>(by cases h)⟩
theorem VSt.made {l':Array Bool} {b':Act} (h:VSt l A len cap ck w0 zo m q B bc r l' b' w) (h1:l'.getD 11 false=false) (hsz:36 < b'.tmps.size) :
  VSt l A len cap ck w0 zo m q B bc r (l'.setIfInBounds 10 true) (b'.put (some 36) (.slice (some ⟨w.heap.size,0,none⟩) 1 1)) (w.alloc (.cells #[.int .i64 r] 3)):=by
 have x:Ext w (w.alloc (.cells #[.int .i64 r] 3)):=(Ext.refl w).alloc _
 have e1:(l'.setIfInBounds 10 true).getD 11 false=false:=by rw [getD_set_ne false (by decide)]; exact h1
 refine ⟨by rw [Array.size_setIfInBounds]; exact h.size,h.ext.trans x,h.lo,h.oo.ext x,h.mm.ext x,fun _=>own_ext (h.own h1) x,fun _ _=>⟨w.heap.size,?_,Blk.new _ _ _⟩,fun e=>(by rw [e1] at e; cases e)⟩
 show (b'.tmps.setIfInBounds 36 _)[36]?=_
 rw [Array.getElem?_setIfInBounds,if_pos rfl,if_pos hsz]
theorem VSt.out {l':Array Bool} {b':Act} {v:Value} {f:Rf} (h:VSt l A len cap ck w0 zo m q B bc (roomR f) l' b' w) (h1:l'.getD 11 false=true) (hv:b'.tmps[37]?=some v) (hq:q < l.length) (hf:f=l.getD q default) :
  ∃ B' bc',v=.slice B' (q + 1) bc'∧m < w.heap.size∧w.cell? ⟨m,5,none⟩=some (.slice B q bc)∧w.frozen? ⟨m,5,none⟩=false∧PSt l A len cap ck w0 zo m (q + 1) B' bc' (w.setCell ⟨m,5,none⟩ v):=by
 subst hf
 obtain ⟨v2,hv2,ow⟩:=h.new h1
 rw [hv] at hv2
 cases hv2
 rw [← roomsL_snoc l hq] at ow
 obtain ⟨B',bc',rfl,_⟩:=own_slice ow
 have hlo:=h.lo
 have fa:=h.mm.facts
 refine ⟨B',bc',rfl,fa.1,fa.2.2.2.2.2.2.1,fa.2.2.2.2.2.2.2 5,?_⟩
 refine ⟨h.ext.setCell (p:=⟨m,5,none⟩) (by show w0.heap.size ≤ m; omega) _,hlo,h.oo.far (p:=⟨m,5,none⟩) (by show zo ≠ m; omega) _,Blk.set_ h.mm 5 _,?_⟩
 refine ow.kept (cell_grown w m 5 _) (.inr fun e=>?_)
 have:=own_row ow m e
 omega
end
structure ISt (l:List Rf) (A:Option Addr) (len cap:Nat) (ck:Bool) (w0:World) (zo m:Nat) (B:Option Addr) (bc:Nat) (bz:Nat) (av:List Val) (q:Nat) (v:Value) (w:World):Prop where
 mac:PSt l A len cap ck w0 zo m len B bc w
 own:w.ownsRow bz 50 13 v q (flatV ((av.map plainV).take q))
 lo:m < bz∧bz ≤ w.heap.size
 off:∀ k,(Value.slice B len bc).ownBlock=some k → k < bz
section
variable {l:List Rf} {A:Option Addr} {len cap:Nat} {ck:Bool} {w0 w w':World} {zo m:Nat} {B:Option Addr} {bc bz:Nat} {av:List Val} {q:Nat} {v:Value}
theorem ISt.ext' (s:ISt l A len cap ck w0 zo m B bc bz av q v w) (x:Ext w w'):ISt l A len cap ck w0 zo m B bc bz av q v w':=⟨s.mac.ext' x,own_ext s.own x,⟨s.lo.1,Nat.le_trans s.lo.2 x.size⟩,s.off⟩
theorem PSt.off (s:PSt l A len cap ck w0 zo m q B bc w) {row:Option Nat} (g:w.grownBy w' row) (hr:∀ k,row=some k → m < k) (hb:∀ k,(Value.slice B q bc).ownBlock=some k → row ≠ some k):PSt l A len cap ck w0 zo m q B bc w':=by
 have hlo:=s.lo
 refine ⟨s.ext.grown g fun k e=>by have:=hr k e; omega,hlo,(g.block zo s.oo.lt (fun e=>by have:=hr zo e.symm; omega)).trans s.oo,(g.block m s.mm.facts.1 (fun e=>by have:=hr m e.symm; omega)).trans s.mm,s.own.kept g ?_⟩
 cases ho:(Value.slice B q bc).ownBlock with
 | none=>exact .inl rfl
 | some k=>exact .inr fun e=>hb k ho e.symm
theorem ISt.pushed (s:ISt l A len cap ck w0 zo m B bc bz av q v w) (g:w.grownBy w' v.ownBlock) {v':Value} {u:Val} (hq:q < av.length) (hu:u=av.getD q default) (ow:w'.ownsRow bz 50 13 v' (q + 1) (flatV ((av.map plainV).take q) ++ (plainV u).cells)):ISt l A len cap ck w0 zo m B bc bz av (q + 1) v' w':=by
 have hr:=own_row s.own
 refine ⟨s.mac.off g (fun k e=>by have:=hr k e; have:=s.lo; omega) (fun k e e2=>by have:=hr k e2; have:=s.off k e; omega),?_,⟨s.lo.1,Nat.le_trans s.lo.2 g.size⟩,s.off⟩
 rw [List.take_succ_eq_append_getElem (by rw [List.length_map]; exact hq),flatV_snoc,List.getElem_map]
 have e:av[q]=u:=by rw [hu,List.getD,List.getElem?_eq_getElem hq]; rfl
 rw [e]
 exact ow
end
def WSt (l:List Rf) (A:Option Addr) (len cap:Nat) (ck:Bool) (w0:World) (zo m:Nat) (B:Option Addr) (bc:Nat) (bz:Nat) (av:List Val) (q:Nat) (v:Value) (u:Val) (l':Array Bool) (b':Act) (w':World):Prop :=
 ISt l A len cap ck w0 zo m B bc bz av q v w'∧(l'.getD 17 false=true → ∃ g,b'.tmps[63]?=some (.slice (some ⟨g,0,none⟩) 1 1)∧Blk w' g 50 (plainV u).cells.toArray)
section
variable {l:List Rf} {A:Option Addr} {len cap:Nat} {ck:Bool} {w0 w w':World} {zo m:Nat} {B:Option Addr} {bc bz:Nat} {av:List Val} {q:Nat} {v:Value} {u:Val}
theorem WSt.same {i k:Nat} (h1:i ≠ 17) (h2:k ≠ 63) (x:Value) (l':Array Bool) (b':Act) (w:World):WSt l A len cap ck w0 zo m B bc bz av q v u (l'.setIfInBounds i true) (b'.put (some k) x) w ↔ WSt l A len cap ck w0 zo m B bc bz av q v u l' b' w:=by
 unfold WSt
 rw [getD_set_ne false h1,put_at b' k 63 x h2]
end
structure PEnd (w0:World) (zo z14 m:Nat) (vc:Array Value) (A:Option Addr) (len cap:Nat) (ck:Bool) (B:Option Addr) (bc:Nat) (t:Nat) (en:En) (w:World):Prop where
 ext:Ext w0 w
 lo:w0.heap.size ≤ zo∧zo < m
 oo:Blk w zo 52 outZ
 vv:Blk w z14 50 vc
 mm:HMem w m A len cap ck t (enE en).1 (enE en).2 B len bc
section
variable {w0 w w9:World} {zo z14 m:Nat} {vc:Array Value} {A:Option Addr} {len cap:Nat} {ck:Bool} {B:Option Addr} {bc:Nat} {t:Nat} {en:En}
theorem PEnd.start (x:Ext w0 w9) (lo:w0.heap.size ≤ zo∧zo < m) (z:Blk w9 zo 52 outZ) (h:HMem w9 m A len cap ck t (enE en).1 (enE en).2 B len bc) :
  PEnd w0 zo w9.heap.size m vc A len cap ck B bc t en ((w9.alloc (.cells zeroV 50)).setRow w9.heap.size vc):=by
 have hz:=z.lt
 have hm:=h.facts.1
 exact ⟨(x.alloc _).setRow x.size _,lo,(setRow_other _ _ _ _ (by omega)).trans (z.alloc _),(Blk.new w9 50 zeroV).row _,(setRow_other _ _ _ _ (by omega)).trans (Blk.alloc h _)⟩
theorem PEnd.drew (s:PEnd w0 zo z14 m vc A len cap ck B bc t en w):PEnd w0 zo z14 m vc A len cap ck B bc t en w.drew:=by
 have x:Ext w w.drew:=(Ext.refl w).drew
 exact ⟨s.ext.trans x,s.lo,s.oo.ext x,s.vv.ext x,s.mm.ext x⟩
theorem PEnd.facts (s:PEnd w0 zo z14 m vc A len cap ck B bc t en w):m < w.heap.size∧w.cell? ⟨m,3,none⟩=some (.int .i64 (enE en).1)∧w.cell? ⟨m,4,none⟩=some (.int .i64 (enE en).2):=by
 have h:=s.mm.facts
 exact ⟨h.1,h.2.2.2.2.1,h.2.2.2.2.2.1⟩
theorem PEnd.range (s:PEnd w0 zo z14 m vc A len cap ck B bc t en w):w.rangeAt z14 0 vc.toList:=by
 intro j v hv
 rw [Nat.zero_add,s.vv.cell]
 simpa using hv
theorem PEnd.done (s:PEnd w0 zo z14 m vc A len cap ck B bc t en w) {out:En × Nat} (ho:out=(en,t)):∃ m' B' bn' bc',Ending.returned (.tuple #[.pointer (some ⟨m,0,none⟩),.agg (outC en)])=.returned (.tuple #[.pointer (some ⟨m',0,none⟩),.agg (outC out.1)]) ∧
  HMem (w.setRow zo (outC en)) m' A len cap ck out.2 (enE out.1).1 (enE out.1).2 B' bn' bc'∧Ext w0 (w.setRow zo (outC en)):=by
 subst ho
 have hlo:=s.lo
 exact ⟨m,B,len,bc,rfl,(setRow_other _ _ _ _ (by omega)).trans s.mm,s.ext.setRow hlo.1 _⟩
end
end Go.Proofs.YtcoookehfhhhdaaGreatDoor.c
