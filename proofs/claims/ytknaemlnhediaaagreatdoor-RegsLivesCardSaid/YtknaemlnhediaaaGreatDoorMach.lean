/- Register code as plain data, and what it does, told plainly: a run is a derivation, and there is one at most. No condition. Each run comes to an end, and within the quota; what a run's first step tells. No condition. -/
import Derived.Test.YtknaemlnhediaaaGreatDoorTy
import Derived.Test.YtknaemlnhediaaaGreatDoorAri
namespace Go.Proofs.YtknaemlnhediaaaGreatDoor.c
open Go.RowKit
set_option linter.unusedVariables false
set_option linter.unusedSimpArgs false

structure Rg where
 op : Int
 d : Int
 a : Int
 b : Int
 ty : Ty
 name : ByteArray
 A : Option Addr
 cap : Nat
 args : List Int
instance : Inhabited Rg := ⟨⟨0, 0, 0, 0, default, ⟨#[]⟩, none, 0, []⟩⟩
structure Rf where
 name : ByteArray
 params : Int
 regs : Int
 ty : Ty
 A : Option Addr
 cap : Nat
 code : List Rg
instance : Inhabited Rf := ⟨⟨⟨#[]⟩, 0, 0, default, none, 0, []⟩⟩
structure Val where
 ty : Ty
 n : Int
 null : Bool
 err : ByteArray
 of : Ty
instance : Inhabited Val := ⟨⟨default, 0, false, ⟨#[]⟩, default⟩⟩
def pv (n : Int) (null : Bool) (err : ByteArray) : Val := ⟨default, n, null, err, default⟩
def nv (n : Int) : Val := pv n false ⟨#[]⟩
def wrapT (t : Ty) (n : Int) : Int := if t.base ≤ 1 then (if t.base = 1 ∧ n ≠ 0 then 1 else 0) else bendI (t.base == 3) t.bits n
def cmpB (op a c : Int) : Bool :=
 if op = 18 then a == c else if op = 19 then a != c else if op = 20 then decide (a < c) else if op = 21 then decide (a ≤ c) else if op = 22 then decide (c < a) else decide (c ≤ a)
def b01 (b : Bool) : Int := if b = true then 1 else 0
def numF (ck : Bool) (x : Rg) (v u : Val) : Int × Int :=
 if x.op = 6 then (b01 (v.n == 0), 0)
 else if x.op = 9 then (if (ck && v.null) = true then (0, 4) else (v.n, 0))
 else if x.op = 5 then (if fitI (x.ty.base == 3) x.ty.bits (-wrapT x.ty v.n) = true then (-wrapT x.ty v.n, 0) else if ck = true then (0, 1) else (wrapT x.ty (-wrapT x.ty v.n), 0))
 else if x.op = 7 then (if (ck && !fitI (x.ty.base == 3) x.ty.bits v.n) = true then (0, 3) else (wrapT x.ty v.n, 0))
 else if x.op = 8 then (wrapT x.ty v.n, 0)
 else if 118 ≤ x.op then (b01 (cmpB (x.op - 100) v.n u.n), 0)
 else if (ck && whyI (x.op - 100) (x.ty.base == 3) x.ty.bits (wrapT x.ty v.n) (wrapT x.ty u.n) != 0) = true then (0, whyI (x.op - 100) (x.ty.base == 3) x.ty.bits (wrapT x.ty v.n) (wrapT x.ty u.n))
 else (looseI (x.op - 100) (x.ty.base == 3) x.ty.bits (wrapT x.ty v.n) (wrapT x.ty u.n), 0)
inductive En where
 | ret (v : Val)
 | stop (why : Int)
 | long
def upd (f : Nat → Val) (i : Nat) (v : Val) : Nat → Val := fun j => if j = i then v else f j
inductive Nx where
 | done (e : En)
 | go (p : Nat) (R S : Nat → Val)
 | call (nm : ByteArray) (av : List Val) (r : Nat)
def stepF (ck : Bool) (x : Rg) (p : Nat) (R S : Nat → Val) : Nx :=
 if x.op = 0 then .go (p + 1) (upd R x.d.toNat (nv (wrapT x.ty x.a))) S
 else if x.op = 1 then .go (p + 1) (upd R x.d.toNat (pv 0 true ⟨#[]⟩)) S
 else if x.op = 2 then .go (p + 1) (upd R x.d.toNat (R x.a.toNat)) S
 else if x.op = 3 then .go (p + 1) (upd R x.d.toNat (S x.a.toNat)) S
 else if x.op = 4 then .go (p + 1) R (upd S x.a.toNat (R x.b.toNat))
 else if x.op = 10 then .go (bif (R x.a.toNat).null then x.d.toNat else p + 1) R S
 else if x.op = 11 then .go (bif !emp (R x.a.toNat).err then x.d.toNat else p + 1) R S
 else if x.op = 12 then .go x.d.toNat R S
 else if x.op = 13 then .go (bif (R x.a.toNat).n == 0 then x.d.toNat else p + 1) R S
 else if x.op = 14 then .call x.name (x.args.map fun i => S i.toNat) x.d.toNat
 else if x.op = 15 then .done (.ret (R x.a.toNat))
 else if x.op = 16 then .go (p + 1) (upd R x.d.toNat (pv 0 false x.name)) S
 else if x.op = 17 then .done (bif ck then .stop x.a else .ret default)
 else bif (numF ck x (R x.a.toNat) (R x.b.toNat)).2 != 0 then .done (.stop (numF ck x (R x.a.toNat) (R x.b.toNat)).2)
  else .go (p + 1) (upd R x.d.toNat (nv (numF ck x (R x.a.toNat) (R x.b.toNat)).1)) S
def indexR (l : List Rf) (n : ByteArray) : Int := findI (fun k => (l.getD k default).name.toList == n.toList) l.length
inductive Cfg where
 | call (d k : Nat) (av : List Val)
 | at_ (d k p : Nat) (R S : Nat → Val)
inductive Run (l : List Rf) (ck : Bool) : Cfg → Nat → En → Nat → Prop where
 | deep {d k av s} : 30 < d → Run l ck (.call d k av) s .long s
 | enter {d k av s e t} : d ≤ 30 → Run l ck (.at_ d k 0 (fun _ => default) (fun i => av.getD i default)) s e t → Run l ck (.call d k av) s e t
 | full {d k p R S s} : 40000 ≤ s → Run l ck (.at_ d k p R S) s .long s
 | done {d k p R S s e} : s < 40000 → stepF ck ((l.getD k default).code.getD p default) p R S = .done e → Run l ck (.at_ d k p R S) s e (s + 1)
 | go {d k p R S s e t p' R' S'} : s < 40000 → stepF ck ((l.getD k default).code.getD p default) p R S = .go p' R' S' → Run l ck (.at_ d k p' R' S') (s + 1) e t → Run l ck (.at_ d k p R S) s e t
 | callX {d k p R S s e t nm av r} : s < 40000 → stepF ck ((l.getD k default).code.getD p default) p R S = .call nm av r → Run l ck (.call (d + 1) (indexR l nm).toNat av) (s + 1) e t → (∀ v, e ≠ .ret v) → Run l ck (.at_ d k p R S) s e t
 | callR {d k p R S s v t e u nm av r} : s < 40000 → stepF ck ((l.getD k default).code.getD p default) p R S = .call nm av r → Run l ck (.call (d + 1) (indexR l nm).toNat av) (s + 1) (.ret v) t → Run l ck (.at_ d k (p + 1) (upd R r v) S) t e u → Run l ck (.at_ d k p R S) s e u
theorem Run.mono {l : List Rf} {ck : Bool} {c : Cfg} {s : Nat} {e : En} {t : Nat} (h : Run l ck c s e t) : s ≤ t := by
 induction h with
 | deep _ => exact Nat.le_refl _
 | enter _ _ ih => exact ih
 | full _ => exact Nat.le_refl _
 | done _ _ => omega
 | go _ _ _ ih => omega
 | callX _ _ _ _ ih => omega
 | callR _ _ _ _ ih1 ih2 => omega
theorem Run.det {l : List Rf} {ck : Bool} {c : Cfg} {s : Nat} {e : En} {t : Nat} (h : Run l ck c s e t) : ∀ {e2 : En} {t2 : Nat}, Run l ck c s e2 t2 → e = e2 ∧ t = t2 := by
 induction h with
 | deep h1 => intro e2 t2 h; cases h with
  | deep _ => exact ⟨rfl, rfl⟩
  | enter h2 _ => omega
 | enter h1 _ ih => intro e2 t2 h; cases h with
  | deep _ => omega
  | enter _ h2 => exact ih h2
 | full h1 => intro e2 t2 h; cases h with
  | full _ => exact ⟨rfl, rfl⟩
  | done h2 => omega
  | go h2 => omega
  | callX h2 => omega
  | callR h2 => omega
 | done h1 h2 => intro e2 t2 h; cases h with
  | full _ => omega
  | done _ h3 => rw [h2] at h3; cases h3; exact ⟨rfl, rfl⟩
  | go _ h3 => rw [h2] at h3; cases h3
  | callX _ h3 => rw [h2] at h3; cases h3
  | callR _ h3 => rw [h2] at h3; cases h3
 | go h1 h2 _ ih => intro e2 t2 h; cases h with
  | full _ => omega
  | done _ h3 => rw [h2] at h3; cases h3
  | go _ h3 h4 => rw [h2] at h3; cases h3; exact ih h4
  | callX _ h3 => rw [h2] at h3; cases h3
  | callR _ h3 => rw [h2] at h3; cases h3
 | callX h1 h2 _ h5 ih => intro e2 t2 h; cases h with
  | full _ => omega
  | done _ h3 => rw [h2] at h3; cases h3
  | go _ h3 => rw [h2] at h3; cases h3
  | callX _ h3 h4 _ => rw [h2] at h3; cases h3; exact ih h4
  | callR _ h3 h4 _ => rw [h2] at h3; cases h3; exact absurd (ih h4).1 (h5 _)
 | callR h1 h2 _ _ ih1 ih2 => intro e2 t2 h; cases h with
  | full _ => omega
  | done _ h3 => rw [h2] at h3; cases h3
  | go _ h3 => rw [h2] at h3; cases h3
  | callX _ h3 h4 h5 => rw [h2] at h3; cases h3; exact absurd (ih1 h4).1.symm (h5 _)
  | callR _ h3 h4 h5 =>
   rw [h2] at h3
   cases h3
   obtain ⟨e1, rfl⟩ := ih1 h4
   cases e1
   exact ih2 h5
theorem Run.quota {l : List Rf} {ck : Bool} {c : Cfg} {s : Nat} {e : En} {t : Nat} (h : Run l ck c s e t) : s ≤ 40000 → t ≤ 40000 := by
 induction h with
 | deep _ => exact fun h => h
 | enter _ _ ih => exact ih
 | full _ => exact fun h => h
 | done h _ => intro _; omega
 | go h _ _ ih => intro _; exact ih (by omega)
 | callX h _ _ _ ih => intro _; exact ih (by omega)
 | callR h _ _ _ ih1 ih2 => intro _; exact ih2 (ih1 (by omega))
theorem Run.total_at {l : List Rf} {ck : Bool} {d : Nat} (hc : ∀ k av s, ∃ e t, Run l ck (.call (d + 1) k av) s e t) : ∀ (q s k p : Nat) (R S : Nat → Val), 40000 ≤ s + q → ∃ e t, Run l ck (.at_ d k p R S) s e t := by
 intro q
 induction q with
 | zero => intro s k p R S h; exact ⟨_, _, .full (by omega)⟩
 | succ q ih =>
  intro s k p R S h
  rcases Nat.lt_or_ge s 40000 with hs | hs
  ·cases hst : stepF ck ((l.getD k default).code.getD p default) p R S with
   | done e => exact ⟨_, _, .done hs hst⟩
   | go p' R' S' =>
    obtain ⟨e, t, hr⟩ := ih (s + 1) k p' R' S' (by omega)
    exact ⟨_, _, .go hs hst hr⟩
   | call nm av r =>
    obtain ⟨e, t, hr⟩ := hc (indexR l nm).toNat av (s + 1)
    cases e with
    | ret v =>
     have := hr.mono
     obtain ⟨e2, t2, hr2⟩ := ih t k (p + 1) (upd R r v) S (by omega)
     exact ⟨_, _, .callR hs hst hr hr2⟩
    | stop y => exact ⟨_, _, .callX hs hst hr (fun v => by intro e; cases e)⟩
    | long => exact ⟨_, _, .callX hs hst hr (fun v => by intro e; cases e)⟩
  ·exact ⟨_, _, .full hs⟩
theorem Run.total_n {l : List Rf} {ck : Bool} : ∀ (n d : Nat), 31 ≤ d + n → ∀ k av s, ∃ e t, Run l ck (.call d k av) s e t := by
 intro n
 induction n with
 | zero => intro d h k av s; exact ⟨_, _, .deep (by omega)⟩
 | succ n ih =>
  intro d h k av s
  rcases Nat.lt_or_ge 30 d with hd | hd
  ·exact ⟨_, _, .deep hd⟩
  ·obtain ⟨e, t, hr⟩ := Run.total_at (ih (d + 1) (by omega)) 40000 s k 0 (fun _ => default) (fun i => av.getD i default) (by omega)
   exact ⟨_, _, .enter hd hr⟩
theorem Run.total (l : List Rf) (ck : Bool) (d k : Nat) (av : List Val) (s : Nat) : ∃ e t, Run l ck (.call d k av) s e t := Run.total_n 31 d (by omega) k av s
section
variable {l : List Rf} {ck : Bool} {d k p : Nat} {R S : Nat → Val} {s : Nat} {e : En} {t : Nat} {av : List Val}
theorem Run.inv_deep (h : Run l ck (.call d k av) s e t) (hd : 30 < d) : e = .long ∧ t = s := h.det (.deep hd)
theorem Run.inv_enter (h : Run l ck (.call d k av) s e t) (hd : d ≤ 30) : Run l ck (.at_ d k 0 (fun _ => default) (fun i => av.getD i default)) s e t := by
 cases h with
 | deep _ => omega
 | enter _ h => exact h
theorem Run.inv_full (h : Run l ck (.at_ d k p R S) s e t) (hs : 40000 ≤ s) : e = .long ∧ t = s := h.det (.full hs)
theorem Run.inv_done {e' : En} (h : Run l ck (.at_ d k p R S) s e t) (hs : s < 40000) (hst : stepF ck ((l.getD k default).code.getD p default) p R S = .done e') : e = e' ∧ t = s + 1 := h.det (.done hs hst)
theorem Run.inv_go {p' : Nat} {R' S' : Nat → Val} (h : Run l ck (.at_ d k p R S) s e t) (hs : s < 40000) (hst : stepF ck ((l.getD k default).code.getD p default) p R S = .go p' R' S') : Run l ck (.at_ d k p' R' S') (s + 1) e t := by
 cases h with
 | full _ => omega
 | done _ h2 => rw [hst] at h2; cases h2
 | go _ h2 h3 => rw [hst] at h2; cases h2; exact h3
 | callX _ h2 => rw [hst] at h2; cases h2
 | callR _ h2 => rw [hst] at h2; cases h2
theorem Run.inv_call {nm : ByteArray} {av : List Val} {r : Nat} (h : Run l ck (.at_ d k p R S) s e t) (hs : s < 40000) (hst : stepF ck ((l.getD k default).code.getD p default) p R S = .call nm av r) :
  ∃ e1 t1, Run l ck (.call (d + 1) (indexR l nm).toNat av) (s + 1) e1 t1 ∧ (((∀ v, e1 ≠ .ret v) ∧ e = e1 ∧ t = t1) ∨ ∃ v, e1 = .ret v ∧ Run l ck (.at_ d k (p + 1) (upd R r v) S) t1 e t) := by
 cases h with
 | full _ => omega
 | done _ h2 => rw [hst] at h2; cases h2
 | go _ h2 h3 => rw [hst] at h2; cases h2
 | callX _ h2 h3 h4 => rw [hst] at h2; cases h2; exact ⟨_, _, h3, .inl ⟨h4, rfl, rfl⟩⟩
 | callR _ h2 h3 h4 => rw [hst] at h2; cases h2; exact ⟨_, _, h3, .inr ⟨_, rfl, h4⟩⟩
end
end Go.Proofs.YtknaemlnhediaaaGreatDoor.c
