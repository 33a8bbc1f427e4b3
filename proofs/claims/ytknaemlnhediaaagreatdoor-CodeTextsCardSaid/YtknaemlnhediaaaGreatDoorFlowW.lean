/- Regions that draw their order, ahead of an operation that all others stand before: short forms. No condition. -/
import Derived.Test.YtknaemlnhediaaaGreatDoorFlow
namespace Go.Proofs.YtknaemlnhediaaaGreatDoor.c
open Go.RowKit
set_option linter.unusedVariables false
set_option linter.unusedSimpArgs false
def okW (md:Region.Mode) (ops:Array Oper) (l:Array Bool) (i k:Nat):Bool:=okT md ops l i && (before md ops i 20 k && (closedB md ops l && (!l.getD k false && i != k)))
theorem tv {P:Program} {ops:Array Oper} {Q:Exit → Act → World → Prop} {md:Region.Mode} {k fuel:Nat} {B:Array Bool → Act → World → Prop} {listed:Array Bool} {a:Act} {op:Op} {ty:TypeId} {ps:String} {af:Array Edge} {g:Option (Nat × Bool)} (i t:Nat) (v:Value) (hi:ops[i]?=some ⟨some t,op,ty,ps,af,g⟩) (hok:okW md ops listed i k=true) (hQ:Calm Q) (hst:∀ l b w,B (l.setIfInBounds i true) (b.put (some t) v) w ↔ B l b w)
  (hw:Region.wanted ⟨some t,op,ty,ps,af,g⟩ (yielded ops a.tmps)=true) (hv:∀ l b w,l.getD k false=false → B l b w → (execOp a.eval ⟨some t,op,ty,ps,af,g⟩).run P w=.ok (.value v) w)
  (h:wpAnyU P md ops Q (FV P md ops Q k B) fuel (listed.setIfInBounds i true) (a.put (some t) v)):wpAnyU P md ops Q (FV P md ops Q k B) (fuel + 1) listed a:=by
 unfold okW at hok
 simp only [Bool.and_eq_true,Bool.not_eq_true',bne_iff_ne] at hok
 obtain ⟨h0,h1,h2,h3,h4⟩:=hok
 obtain ⟨a1,a2,a3⟩:=okT_spec h0
 exact flowV_take hi h4 h1 h2 h3 rfl a1 a2 a3 hQ hst (.inl ⟨hw,hv⟩) h
theorem tvp {P:Program} {ops:Array Oper} {Q:Exit → Act → World → Prop} {md:Region.Mode} {k fuel:Nat} {B:Array Bool → Act → World → Prop} {listed:Array Bool} {a:Act} {op:Op} {ty:TypeId} {ps:String} {af:Array Edge} {g:Option (Nat × Bool)} (i t:Nat) {v:Value} (hi:ops[i]?=some ⟨some t,op,ty,ps,af,g⟩) (hQ:Calm Q) (hst:∀ l b w,B (l.setIfInBounds i true) (b.put (some t) v) w ↔ B l b w) (h:wpAnyU P md ops Q (FV P md ops Q k B) fuel (listed.setIfInBounds i true) (a.put (some t) v)) (hok:okW md ops listed i k=true:=by kernel_rfl)
  (hw:Region.wanted ⟨some t,op,ty,ps,af,g⟩ (yielded ops a.tmps)=true:=by rfl)
  (hv:∀ l b w,l.getD k false=false → B l b w → (execOp a.eval ⟨some t,op,ty,ps,af,g⟩).run P w=.ok (.value v) w:=by (intro l b' w' hlk hF; go_simp; try with_reducible rfl)):wpAnyU P md ops Q (FV P md ops Q k B) (fuel + 1) listed a:=tv i t v hi hok hQ hst hw hv h
theorem tvd {P:Program} {ops:Array Oper} {Q:Exit → Act → World → Prop} {md:Region.Mode} {k fuel:Nat} {B:Array Bool → Act → World → Prop} {listed:Array Bool} {a:Act} {op:Op} {ty:TypeId} {ps:String} {af:Array Edge} {g:Option (Nat × Bool)} (i t:Nat) {v:Value} (hi:ops[i]?=some ⟨some t,op,ty,ps,af,g⟩) (hQ:Calm Q) (hst:∀ l b w,B (l.setIfInBounds i true) (b.put (some t) v) w ↔ B l b w) (h:wpAnyU P md ops Q (FV P md ops Q k B) fuel (listed.setIfInBounds i true) (a.put (some t) v)) (hok:okW md ops listed i k=true:=by kernel_rfl)
  (hw:Region.wanted ⟨some t,op,ty,ps,af,g⟩ (yielded ops a.tmps)=true:=by rfl)
  (hv:∀ l b w,l.getD k false=false → B l b w → (execOp a.eval ⟨some t,op,ty,ps,af,g⟩).run P w=.ok (.value v) w:=by (intro l b' w' hlk hF; have hq:=HD.out _ _ _ hF; go_simp; try with_reducible rfl)):wpAnyU P md ops Q (FV P md ops Q k B) (fuel + 1) listed a:=tv i t v hi hok hQ hst hw hv h
end Go.Proofs.YtknaemlnhediaaaGreatDoor.c
