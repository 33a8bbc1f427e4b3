/- Regions that draw their order, with calls that only make memory: every order comes to one end. No condition. Regions that draw their order, with calls that make or turn memory, and with new blocks in the frame: what holds of worlds may look at the frame. No condition. Regions that draw their order and end with a store: what holds of memory before the store is enough for all that stands before it. No condition. Regions that draw their order and end in a chain: loads and calls are taken first, in one order; from a place that all of them stand before, the region goes on in one way. No condition. -/
import Derived.Test.YtcoookehfhhhdaaGreatDoorLib
import Derived.OrdersHeld
import Derived.Laws.AppendOwn
import Derived.Deep.MidRow
import Derived.Laws.Rows
namespace Go.Proofs.YtcoookehfhhhdaaGreatDoor.c
open Go.RowKit
set_option linter.unusedVariables false
set_option linter.unusedSimpArgs false

section
variable {P:Program} {ops:Array Oper} {Q:Exit → Act → World → Prop} {md:Region.Mode} {F:Array Bool → World → Prop}

def DoesIf (P:Program) (ops:Array Oper) (F:Array Bool → World → Prop) (o:Oper) (v:Value) (a:Act):Prop :=
 (Region.wanted o (yielded ops a.tmps)=true∧∀ l w,F l w → (execOp a.eval o).run P w=.ok (.value v) w) ∨
 (Region.wanted o (yielded ops a.tmps)=true∧∃ K args,(∀ l w,F l w → (execOp a.eval o).run P w=.ok (.enter K args) w)∧∀ l w,F l w → Calls P K args w (fun e w'=>e=.returned v∧F l w')) ∨
 (Region.wanted o (yielded ops a.tmps)=false∧v=undef)
theorem DoesIf.of_same {o:Oper} {v:Value} {a a':Act} (hy:DoesIf P ops F o v a) (he:execOp a'.eval o=execOp a.eval o)
  (hw:Region.wanted o (yielded ops a'.tmps)=Region.wanted o (yielded ops a.tmps)):DoesIf P ops F o v a':=by
 unfold DoesIf at *
 rw [he,hw]
 exact hy
theorem DoesIf.wpOp {i:Nat} {o:Oper} {v:Value} {a:Act} {l:Array Bool} (hi:ops[i]?=some o) (hy:DoesIf P ops F o v a)
  {K:Act → World → Prop} {w:World} (hF:F l w) (h:∀ w',F l w' → K (a.put o.dst v) w'):wpOp P ops Q i K a w:=by
 unfold Go.wpOp
 simp only [hi]
 rcases hy with ⟨hw,hv⟩ | ⟨hw,k,args,hv,hc⟩ | ⟨hw,rfl⟩
 ·simp only [hw,if_true,Oper.wp,hv l w hF,Oper.upon]; exact .inl (h w hF)
 ·simp only [hw,if_true,Oper.wp,hv l w hF,Oper.upon]
  refine .inl (Calls.mono (hc l w hF) fun e w' he=>?_)
  obtain ⟨rfl,h2⟩:=he
  exact h w' h2
 ·simp only [hw,Bool.false_eq_true,if_false]; exact h w hF
theorem wpOp_putD {D:Act → Prop} {j:Nat} {oi oj:Oper} {v:Value} (hj:ops[j]?=some oj) (hap:oi.apart ops oj=true)
  (hsj:∀ cs b,oj.op ≠ .select cs b) (hQ:∀ c a w,Q (.panic c) (a.put oi.dst v) w → Q (.panic c) a w)
  (keep:∀ a,D a → ∀ u,D (a.put oj.dst u)) (keepD:∀ a,D a → ∀ d,D { a with defers:=d :: a.defers }) {K:Act → World → Prop} {a:Act} {w:World}
  (hy:D a) (h:wpOp P ops Q j K (a.put oi.dst v) w):wpOp P ops Q j (fun a' w'=>D a'∧K (a'.put oi.dst v) w') a w:=by
 obtain ⟨h1,h2,h3⟩:=Oper.apart_spec hap
 unfold Go.wpOp at *
 simp only [hj] at *
 rw [wanted_put oj a oi.dst v h1] at h
 split
 ·rename_i hw
  simp only [hw,if_true] at h
  rcases h with h | ⟨hasks,hlets⟩
  case inr=>exact .inr ⟨by unfold Oper.asks at *; rw [execOp_put oj hsj a oi.dst v h1] at hasks; exact hasks,hlets⟩
  refine .inl ?_
  unfold Oper.wp at *
  rw [execOp_put oj hsj a oi.dst v h1] at h
  generalize (execOp a.eval oj).run P w=r at *
  cases r with
  | ok n w' =>
   cases n <;> simp only [Oper.upon] at h ⊢
   case value u=>exact ⟨keep a hy u,by rw [← Act.put_comm a v u h2]; exact h⟩
   case skip=>exact ⟨keep a hy _,by rw [← Act.put_comm a v undef h2]; exact h⟩
   case defer d =>
    refine ⟨keep _ (keepD a hy d) _,?_⟩
    rw [← Act.put_comm _ v undef h2,← Act.put_defers]
    exact h
   case enter f args =>
    refine Calls.mono h fun e w'' he=>?_
    cases e with
    | returned u=>exact ⟨keep a hy u,by rw [← Act.put_comm a v u h2]; exact he⟩
    | panicked c=>exact hQ _ _ _ he
    | outgrown=>exact he
   case row row args=>exact Rows.mono h fun u w'' he=>⟨keep a hy u,by rw [← Act.put_comm a v u h2]; exact he⟩
  | halt x w' =>
   cases x <;> simp only [Oper.upon] at h ⊢
   case panic u=>exact hQ _ _ _ h
 ·rename_i hw
  simp only [hw] at h
  exact ⟨keep a hy _,by rw [← Act.put_comm a v undef h2]; exact h⟩
def wpAnyT (P:Program) (md:Region.Mode) (ops:Array Oper) (Q:Exit → Act → World → Prop) (F:Array Bool → World → Prop):Nat → Array Bool → Act → Prop
 | 0,listed,a=>Region.ready md ops listed=[]∧∀ w,F listed w → Q .normal a w
 | fuel + 1,listed,a =>
  (Region.ready md ops listed=[] → ∀ w,F listed w → Q .normal a w) ∧
  ∀ i ∈ Region.ready md ops listed,∀ w,F listed w → wpOp P ops Q i (fun a' w'=>F (listed.setIfInBounds i true) w'∧wpAnyT P md ops Q F fuel (listed.setIfInBounds i true) a') a w
theorem wpAny_of_T:∀ (fuel:Nat) (listed:Array Bool) (a:Act),wpAnyT P md ops Q F fuel listed a → ∀ w,F listed w → wpAny P md ops Q fuel listed a w
 | 0,_,_,h,w,hF=>⟨h.1,h.2 w hF⟩
 | fuel + 1,_,_,h,w,hF=>⟨fun h0=>h.1 h0 w hF,fun i hi=>wpOp_mono (fun a' w' h'=>wpAny_of_T fuel _ a' h'.2 w' h'.1) (h.2 i hi w hF)⟩
theorem wpAnyT_first {i:Nat} {oi:Oper} {v:Value} (hi:ops[i]?=some oi) (hsel:∀ (j:Nat) (o:Oper) cs b,ops[j]?=some o → o.op ≠ .select cs b)
  (hQ:∀ c a w,Q (.panic c) (a.put oi.dst v) w → Q (.panic c) a w) (hst:∀ l w,F (l.setIfInBounds i true) w ↔ F l w) :
  ∀ (fuel:Nat) (listed:Array Bool) (a:Act),
   (∀ j oj,ops[j]?=some oj → j ≠ i → listed.getD j true=false → (∀ e ∈ oj.after,Region.binds md e=true → e.on ≠ i) → oi.apart ops oj=true) →
   i ∈ Region.ready md ops listed → DoesIf P ops F oi v a →
   wpAnyT P md ops Q F fuel (listed.setIfInBounds i true) (a.put oi.dst v) → wpAnyT P md ops Q F (fuel + 1) listed a:=by
 intro fuel
 induction fuel with
 | zero =>
  intro listed a _ hr hy H
  refine ⟨fun h=>(by rw [h] at hr; cases hr),fun j hj w hF=>?_⟩
  by_cases hji:j=i
  ·subst hji; exact hy.wpOp hi hF fun w' hF'=>⟨(hst _ _).2 hF',H⟩
  ·have:=ready_mono hj hji
   rw [H.1] at this
   cases this
 | succ fuel ih =>
  intro listed a hfree hr hy H
  refine ⟨fun h=>(by rw [h] at hr; cases hr),fun j hj w hF=>?_⟩
  by_cases hji:j=i
  ·subst hji; exact hy.wpOp hi hF fun w' hF'=>⟨(hst _ _).2 hF',H⟩
  ·have h1:=H.2 j (ready_mono hj hji) w ((hst _ _).2 hF)
   obtain ⟨hjun,oj,hoj,hall⟩:=mem_ready.1 hj
   have hnot:∀ e ∈ oj.after,Region.binds md e=true → e.on ≠ i:=fun e he hb heq=>by
    have h1:=hall e he hb
    have h0:=(mem_ready.1 hr).1
    rw [heq] at h1
    rcases Nat.lt_or_ge i listed.size with h' | h'
    ·simp [h'] at h0 h1; rw [h0] at h1; cases h1
    ·simp [Array.getElem?_eq_none h'] at h1
   have hap:=hfree j oj hoj hji hjun hnot
   obtain ⟨_,_,h3⟩:=Oper.apart_spec hap
   have hsi:∀ cs b,oi.op ≠ .select cs b:=fun cs b=>hsel i oi cs b hi
   have keep:∀ (a:Act),DoesIf P ops F oi v a → ∀ u,DoesIf P ops F oi v (a.put oj.dst u):=fun a hy u =>
    hy.of_same (execOp_put oi hsi a oj.dst u h3) (wanted_put oi a oj.dst u h3)
   have keepD:∀ (a:Act),DoesIf P ops F oi v a → ∀ d,DoesIf P ops F oi v { a with defers:=d :: a.defers }:=fun a hy d=>hy.of_same rfl rfl
   have h2:=wpOp_putD hoj hap (fun cs b=>hsel j oj cs b hoj) hQ keep keepD hy h1
   have hfree':∀ k ok,ops[k]?=some ok → k ≠ i → (listed.setIfInBounds j true).getD k true=false →
     (∀ e ∈ ok.after,Region.binds md e=true → e.on ≠ i) → oi.apart ops ok=true:=fun k ok hk hki hun hno=>by
    refine hfree k ok hk hki ?_ hno
    by_cases hjk:j=k
    ·subst hjk; exact hjun
    ·rw [getD_set_ne true hjk] at hun; exact hun
   refine wpOp_mono (fun a' w' h4=>?_) h2
   refine ⟨?_,ih (listed.setIfInBounds j true) a' hfree' (ready_mono hr (Ne.symm hji)) h4.1 ?_⟩
   ·have h5:=h4.2.1
    rw [Array.setIfInBounds_comm _ _ (Ne.symm hji)] at h5
    exact (hst _ _).1 h5
   ·rw [Array.setIfInBounds_comm _ _ hji]
    exact h4.2.2
/-! ### the moves -/
def Calm (Q:Exit → Act → World → Prop):Prop:=∀ c a t v w,Q (.panic c) (a.put (some t) v) w → Q (.panic c) a w
theorem flow_begin {id:Nat} {a:Act} {w:World} (F:Array Bool → World → Prop) (l0:Array Bool) (hl:Array.replicate ops.size false=l0) (hm:P.follows .mixedOrders=true) (hQ:Calm Q) (hF:F l0 w.drew)
  (h:Calm Q → wpAnyT P .any ops Q F ops.size l0 a):(Code.region id ops true).wp P Q a w:=by
 subst hl
 exact wp_region_any hm (wpAny_of_T _ _ _ (h hQ) _ hF)
theorem flow_take {i t:Nat} {oi:Oper} {v:Value} {fuel:Nat} {listed:Array Bool} {a:Act} (hi:ops[i]?=some oi) (hd:oi.dst=some t)
  (hs:Region.noSelect ops=true) (hf:Region.free md ops listed i=true) (hr:(Region.ready md ops listed).contains i=true)
  (hQ:Calm Q) (hst:∀ l w,F (l.setIfInBounds i true) w ↔ F l w) (hy:DoesIf P ops F oi v a)
  (h:wpAnyT P md ops Q F fuel (listed.setIfInBounds i true) (a.put (some t) v)):wpAnyT P md ops Q F (fuel + 1) listed a:=by
 rw [← hd] at h
 exact wpAnyT_first hi (Region.noSelect_spec hs) (fun c a w=>by rw [hd]; exact hQ c a _ _ w) hst fuel listed a (Region.free_spec hi hf) (by simpa using hr) hy h
def StoresIf (P:Program) (ops:Array Oper) (F:Array Bool → World → Prop) (i:Nat) (o:Oper) (a:Act):Prop :=
 Region.wanted o (yielded ops a.tmps)=true∧∀ l w,F l w → ∃ r w',(execOp a.eval o).run P w=.ok r w'∧(r=.value undef ∨ r=.skip)∧F (l.setIfInBounds i true) w'
theorem StoresIf.wpOp {i:Nat} {o:Oper} {a:Act} {l:Array Bool} (hi:ops[i]?=some o) (hy:StoresIf P ops F i o a)
  {K:Act → World → Prop} {w:World} (hF:F l w) (h:∀ w',F (l.setIfInBounds i true) w' → K (a.put o.dst undef) w'):wpOp P ops Q i K a w:=by
 unfold Go.wpOp
 simp only [hi]
 obtain ⟨hw,hv⟩:=hy
 obtain ⟨r,w',hr,hrr,h2⟩:=hv l w hF
 rcases hrr with rfl | rfl
 ·simp only [hw,if_true,Oper.wp,hr,Oper.upon]
  exact .inl (h w' h2)
 ·simp only [hw,if_true,Oper.wp,hr,Oper.upon]
  exact .inl (h w' h2)
theorem flow_put {i fuel:Nat} {oi:Oper} {listed:Array Bool} {a:Act} (hi:ops[i]?=some oi) (di:oi.dst=none) (si:StoresIf P ops F i oi a)
  (hr:Region.ready md ops listed=[i]) (h:wpAnyT P md ops Q F fuel (listed.setIfInBounds i true) a):wpAnyT P md ops Q F (fuel + 1) listed a:=by
 refine ⟨fun e=>(by rw [hr] at e; cases e),fun j hj w hF=>?_⟩
 rw [hr,List.mem_singleton] at hj
 subst hj
 refine si.wpOp hi hF fun w' h2=>⟨h2,?_⟩
 rw [di]
 exact h
theorem flow_store1 {i:Nat} {oi:Oper} {listed:Array Bool} {a:Act} (hi:ops[i]?=some oi) (di:oi.dst=none) (si:StoresIf P ops F i oi a)
  (hr:Region.ready md ops listed=[i]) (h0:Region.ready md ops (listed.setIfInBounds i true)=[]) (h:∀ w,F (listed.setIfInBounds i true) w → Q .normal a w):wpAnyT P md ops Q F 1 listed a:=by
 refine ⟨fun e=>(by rw [hr] at e; cases e),fun j hj w hF=>?_⟩
 rw [hr,List.mem_singleton] at hj
 subst hj
 refine si.wpOp hi hF fun w' h2=>⟨h2,?_⟩
 rw [di]
 exact ⟨h0,h⟩
theorem flow_done {listed:Array Bool} {a:Act} (hr:Region.ready md ops listed=[]) (h:∀ w,F listed w → Q .normal a w):wpAnyT P md ops Q F 0 listed a:=⟨hr,h⟩
end

section
variable {P:Program} {ops:Array Oper} {Q:Exit → Act → World → Prop} {md:Region.Mode} {F:Array Bool → Act → World → Prop}

def DoesF (P:Program) (ops:Array Oper) (F:Array Bool → Act → World → Prop) (o:Oper) (v:Value) (a:Act):Prop :=
 (Region.wanted o (yielded ops a.tmps)=true∧∀ l b w,F l b w → (execOp a.eval o).run P w=.ok (.value v) w) ∨
 (Region.wanted o (yielded ops a.tmps)=true∧∃ K args,(∀ l b w,F l b w → (execOp a.eval o).run P w=.ok (.enter K args) w)∧∀ l b w,F l b w → Calls P K args w (fun e w'=>e=.returned v∧F l b w')) ∨
 (Region.wanted o (yielded ops a.tmps)=false∧v=undef)
theorem DoesF.of_same {o:Oper} {v:Value} {a a':Act} (hy:DoesF P ops F o v a) (he:execOp a'.eval o=execOp a.eval o)
  (hw:Region.wanted o (yielded ops a'.tmps)=Region.wanted o (yielded ops a.tmps)):DoesF P ops F o v a':=by
 unfold DoesF at *
 rw [he,hw]
 exact hy
theorem DoesF.wpOp {i:Nat} {o:Oper} {v:Value} {a b:Act} {l:Array Bool} (hi:ops[i]?=some o) (hy:DoesF P ops F o v a)
  {K:Act → World → Prop} {w:World} (hF:F l b w) (h:∀ w',F l b w' → K (a.put o.dst v) w'):wpOp P ops Q i K a w:=by
 unfold Go.wpOp
 simp only [hi]
 rcases hy with ⟨hw,hv⟩ | ⟨hw,k,args,hv,hc⟩ | ⟨hw,rfl⟩
 ·simp only [hw,if_true,Oper.wp,hv l b w hF,Oper.upon]; exact .inl (h w hF)
 ·simp only [hw,if_true,Oper.wp,hv l b w hF,Oper.upon]
  refine .inl (Calls.mono (hc l b w hF) fun e w' he=>?_)
  obtain ⟨rfl,h2⟩:=he
  exact h w' h2
 ·simp only [hw,Bool.false_eq_true,if_false]; exact h w hF
def wpAnyU (P:Program) (md:Region.Mode) (ops:Array Oper) (Q:Exit → Act → World → Prop) (F:Array Bool → Act → World → Prop):Nat → Array Bool → Act → Prop
 | 0,listed,a=>Region.ready md ops listed=[]∧∀ w,F listed a w → Q .normal a w
 | fuel + 1,listed,a =>
  (Region.ready md ops listed=[] → ∀ w,F listed a w → Q .normal a w) ∧
  ∀ i ∈ Region.ready md ops listed,∀ w,F listed a w → wpOp P ops Q i (fun a' w'=>F (listed.setIfInBounds i true) a' w'∧wpAnyU P md ops Q F fuel (listed.setIfInBounds i true) a') a w
theorem wpAny_of_U:∀ (fuel:Nat) (listed:Array Bool) (a:Act),wpAnyU P md ops Q F fuel listed a → ∀ w,F listed a w → wpAny P md ops Q fuel listed a w
 | 0,_,_,h,w,hF=>⟨h.1,h.2 w hF⟩
 | fuel + 1,_,_,h,w,hF=>⟨fun h0=>h.1 h0 w hF,fun i hi=>wpOp_mono (fun a' w' h'=>wpAny_of_U fuel _ a' h'.2 w' h'.1) (h.2 i hi w hF)⟩
theorem wpAnyU_first {i:Nat} {oi:Oper} {v:Value} (hi:ops[i]?=some oi) (hsel:∀ (j:Nat) (o:Oper) cs b,ops[j]?=some o → o.op ≠ .select cs b)
  (hQ:∀ c a w,Q (.panic c) (a.put oi.dst v) w → Q (.panic c) a w) (hst:∀ l b w,F (l.setIfInBounds i true) (b.put oi.dst v) w ↔ F l b w) :
  ∀ (fuel:Nat) (listed:Array Bool) (a:Act),
   (∀ j oj,ops[j]?=some oj → j ≠ i → listed.getD j true=false → (∀ e ∈ oj.after,Region.binds md e=true → e.on ≠ i) → oi.apart ops oj=true) →
   i ∈ Region.ready md ops listed → DoesF P ops F oi v a →
   wpAnyU P md ops Q F fuel (listed.setIfInBounds i true) (a.put oi.dst v) → wpAnyU P md ops Q F (fuel + 1) listed a:=by
 intro fuel
 induction fuel with
 | zero =>
  intro listed a _ hr hy H
  refine ⟨fun h=>(by rw [h] at hr; cases hr),fun j hj w hF=>?_⟩
  by_cases hji:j=i
  ·subst hji; exact hy.wpOp hi hF fun w' hF'=>⟨(hst _ _ _).2 hF',H⟩
  ·have:=ready_mono hj hji
   rw [H.1] at this
   cases this
 | succ fuel ih =>
  intro listed a hfree hr hy H
  refine ⟨fun h=>(by rw [h] at hr; cases hr),fun j hj w hF=>?_⟩
  by_cases hji:j=i
  ·subst hji; exact hy.wpOp hi hF fun w' hF'=>⟨(hst _ _ _).2 hF',H⟩
  ·have h1:=H.2 j (ready_mono hj hji) w ((hst _ _ _).2 hF)
   obtain ⟨hjun,oj,hoj,hall⟩:=mem_ready.1 hj
   have hnot:∀ e ∈ oj.after,Region.binds md e=true → e.on ≠ i:=fun e he hb heq=>by
    have h1:=hall e he hb
    have h0:=(mem_ready.1 hr).1
    rw [heq] at h1
    rcases Nat.lt_or_ge i listed.size with h' | h'
    ·simp [h'] at h0 h1; rw [h0] at h1; cases h1
    ·simp [Array.getElem?_eq_none h'] at h1
   have hap:=hfree j oj hoj hji hjun hnot
   obtain ⟨_,_,h3⟩:=Oper.apart_spec hap
   have hsi:∀ cs b,oi.op ≠ .select cs b:=fun cs b=>hsel i oi cs b hi
   have keep:∀ (a:Act),DoesF P ops F oi v a → ∀ u,DoesF P ops F oi v (a.put oj.dst u):=fun a hy u =>
    hy.of_same (execOp_put oi hsi a oj.dst u h3) (wanted_put oi a oj.dst u h3)
   have keepD:∀ (a:Act),DoesF P ops F oi v a → ∀ d,DoesF P ops F oi v { a with defers:=d :: a.defers }:=fun a hy d=>hy.of_same rfl rfl
   have h2:=wpOp_putD hoj hap (fun cs b=>hsel j oj cs b hoj) hQ keep keepD hy h1
   have hfree':∀ k ok,ops[k]?=some ok → k ≠ i → (listed.setIfInBounds j true).getD k true=false →
     (∀ e ∈ ok.after,Region.binds md e=true → e.on ≠ i) → oi.apart ops ok=true:=fun k ok hk hki hun hno=>by
    refine hfree k ok hk hki ?_ hno
    by_cases hjk:j=k
    ·subst hjk; exact hjun
    ·rw [getD_set_ne true hjk] at hun; exact hun
   refine wpOp_mono (fun a' w' h4=>?_) h2
   refine ⟨?_,ih (listed.setIfInBounds j true) a' hfree' (ready_mono hr (Ne.symm hji)) h4.1 ?_⟩
   ·have h5:=h4.2.1
    rw [Array.setIfInBounds_comm _ _ (Ne.symm hji)] at h5
    exact (hst _ _ _).1 h5
   ·rw [Array.setIfInBounds_comm _ _ hji]
    exact h4.2.2
/-! ### the moves -/
theorem flow2_begin {id:Nat} {a:Act} {w:World} (F:Array Bool → Act → World → Prop) (l0:Array Bool) (hl:Array.replicate ops.size false=l0) (hm:P.follows .mixedOrders=true) (hQ:Calm Q) (hF:F l0 a w.drew)
  (h:Calm Q → wpAnyU P .any ops Q F ops.size l0 a):(Code.region id ops true).wp P Q a w:=by
 subst hl
 exact wp_region_any hm (wpAny_of_U _ _ _ (h hQ) _ hF)
theorem flow2_take {i t:Nat} {oi:Oper} {v:Value} {fuel:Nat} {listed:Array Bool} {a:Act} (hi:ops[i]?=some oi) (hd:oi.dst=some t)
  (hs:Region.noSelect ops=true) (hf:Region.free md ops listed i=true) (hr:(Region.ready md ops listed).contains i=true)
  (hQ:Calm Q) (hst:∀ l b w,F (l.setIfInBounds i true) (b.put (some t) v) w ↔ F l b w) (hy:DoesF P ops F oi v a)
  (h:wpAnyU P md ops Q F fuel (listed.setIfInBounds i true) (a.put (some t) v)):wpAnyU P md ops Q F (fuel + 1) listed a:=by
 rw [← hd] at h hst
 exact wpAnyU_first hi (Region.noSelect_spec hs) (fun c a w=>by rw [hd]; exact hQ c a _ _ w) hst fuel listed a (Region.free_spec hi hf) (by simpa using hr) hy h
def StepF (P:Program) (md:Region.Mode) (ops:Array Oper) (Q:Exit → Act → World → Prop) (F:Array Bool → Act → World → Prop) (fuel:Nat) (i:Nat) (listed:Array Bool) (a:Act):Prop :=
 ∀ w,F listed a w → wpOp P ops Q i (fun a' w'=>F (listed.setIfInBounds i true) a' w'∧wpAnyU P md ops Q F fuel (listed.setIfInBounds i true) a') a w
theorem flow2_one {i fuel:Nat} {listed:Array Bool} {a:Act} (hr:Region.ready md ops listed=[i]) (h:StepF P md ops Q F fuel i listed a):wpAnyU P md ops Q F (fuel + 1) listed a:=by
 refine ⟨fun e=>(by rw [hr] at e; cases e),fun j hj w hF=>?_⟩
 rw [hr,List.mem_singleton] at hj
 subst hj
 exact h w hF
theorem flow2_two {i k fuel:Nat} {listed:Array Bool} {a:Act} (hr:Region.ready md ops listed=[i,k]) (h:StepF P md ops Q F fuel i listed a) (h2:StepF P md ops Q F fuel k listed a):wpAnyU P md ops Q F (fuel + 1) listed a:=by
 refine ⟨fun e=>(by rw [hr] at e; cases e),fun j hj w hF=>?_⟩
 rw [hr] at hj
 rcases List.mem_cons.1 hj with rfl | hj
 ·exact h w hF
 ·rw [List.mem_singleton] at hj
  subst hj
  exact h2 w hF
theorem step_alloc {i t fuel:Nat} {oi:Oper} {ob:Obj} {listed:Array Bool} {a:Act} (hi:ops[i]?=some oi) (hd:oi.dst=some t) (hw:Region.wanted oi (yielded ops a.tmps)=true)
  (hv:∀ w,F listed a w → (execOp a.eval oi).run P w=.ok (.value (.pointer (some ⟨w.heap.size,0,none⟩))) (w.alloc ob)) (hc:∀ w,F listed a w → F (listed.setIfInBounds i true) (a.put (some t) (.pointer (some ⟨w.heap.size,0,none⟩))) (w.alloc ob))
  (h:∀ g:Nat,wpAnyU P md ops Q F fuel (listed.setIfInBounds i true) (a.put (some t) (.pointer (some ⟨g,0,none⟩)))):StepF P md ops Q F fuel i listed a:=by
 intro w hF
 unfold wpOp
 simp only [hi,hw,if_true,Oper.wp,hv w hF,Oper.upon,hd]
 exact .inl ⟨hc w hF,h _⟩
theorem flow2_done {listed:Array Bool} {a:Act} (hr:Region.ready md ops listed=[]) (h:∀ w,F listed a w → Q .normal a w):wpAnyU P md ops Q F 0 listed a:=⟨hr,h⟩
end
section
variable {P:Program} {ops:Array Oper} {Q:Exit → Act → World → Prop} {md:Region.Mode} {F:Array Bool → World → Prop}
def DoesK (P:Program) (ops:Array Oper) (k:Nat) (F:Array Bool → World → Prop) (o:Oper) (v:Value) (a:Act):Prop :=
 (Region.wanted o (yielded ops a.tmps)=true∧∀ l w,l.getD k false=false → F l w → (execOp a.eval o).run P w=.ok (.value v) w) ∨
 (Region.wanted o (yielded ops a.tmps)=true∧∃ K args,(∀ l w,l.getD k false=false → F l w → (execOp a.eval o).run P w=.ok (.enter K args) w)∧∀ l w,l.getD k false=false → F l w → Calls P K args w (fun e w'=>e=.returned v∧F l w')) ∨
 (Region.wanted o (yielded ops a.tmps)=false∧v=undef)
theorem DoesK.of_same {k:Nat} {o:Oper} {v:Value} {a a':Act} (hy:DoesK P ops k F o v a) (he:execOp a'.eval o=execOp a.eval o)
  (hw:Region.wanted o (yielded ops a'.tmps)=Region.wanted o (yielded ops a.tmps)):DoesK P ops k F o v a':=by
 unfold DoesK at *
 rw [he,hw]
 exact hy
theorem DoesK.wpOp {i k:Nat} {o:Oper} {v:Value} {a:Act} {l:Array Bool} (hi:ops[i]?=some o) (hy:DoesK P ops k F o v a)
  {K:Act → World → Prop} {w:World} (hlk:l.getD k false=false) (hF:F l w) (h:∀ w',F l w' → K (a.put o.dst v) w'):wpOp P ops Q i K a w:=by
 unfold Go.wpOp
 simp only [hi]
 rcases hy with ⟨hw,hv⟩ | ⟨hw,K2,args,hv,hc⟩ | ⟨hw,rfl⟩
 ·simp only [hw,if_true,Oper.wp,hv l w hlk hF,Oper.upon]; exact .inl (h w hF)
 ·simp only [hw,if_true,Oper.wp,hv l w hlk hF,Oper.upon]
  refine .inl (Calls.mono (hc l w hlk hF) fun e w' he=>?_)
  obtain ⟨rfl,h2⟩:=he
  exact h w' h2
 ·simp only [hw,Bool.false_eq_true,if_false]; exact h w hF
theorem wpAnyT_firstK {i k:Nat} {oi ok:Oper} {v:Value} (hi:ops[i]?=some oi) (hk:ops[k]?=some ok) (hke:(ok.after.toList.any fun e=>Region.binds md e && e.on == i)=true) (hik:i ≠ k) (hsel:∀ (j:Nat) (o:Oper) cs b,ops[j]?=some o → o.op ≠ .select cs b)
  (hQ:∀ c a w,Q (.panic c) (a.put oi.dst v) w → Q (.panic c) a w) (hst:∀ l w,F (l.setIfInBounds i true) w ↔ F l w) :
  ∀ (fuel:Nat) (listed:Array Bool) (a:Act),
   (∀ j oj,ops[j]?=some oj → j ≠ i → listed.getD j true=false → (∀ e ∈ oj.after,Region.binds md e=true → e.on ≠ i) → oi.apart ops oj=true) →
   listed.getD k false=false → i ∈ Region.ready md ops listed → DoesK P ops k F oi v a →
   wpAnyT P md ops Q F fuel (listed.setIfInBounds i true) (a.put oi.dst v) → wpAnyT P md ops Q F (fuel + 1) listed a:=by
 intro fuel
 induction fuel with
 | zero =>
  intro listed a _ hlk hr hy H
  refine ⟨fun h=>(by rw [h] at hr; cases hr),fun j hj w hF=>?_⟩
  by_cases hji:j=i
  ·subst hji; exact hy.wpOp hi hlk hF fun w' hF'=>⟨(hst _ _).2 hF',H⟩
  ·have:=ready_mono hj hji
   rw [H.1] at this
   cases this
 | succ fuel ih =>
  intro listed a hfree hlk hr hy H
  refine ⟨fun h=>(by rw [h] at hr; cases hr),fun j hj w hF=>?_⟩
  by_cases hji:j=i
  ·subst hji; exact hy.wpOp hi hlk hF fun w' hF'=>⟨(hst _ _).2 hF',H⟩
  ·have h1:=H.2 j (ready_mono hj hji) w ((hst _ _).2 hF)
   obtain ⟨hjun,oj,hoj,hall⟩:=mem_ready.1 hj
   have hnot:∀ e ∈ oj.after,Region.binds md e=true → e.on ≠ i:=fun e he hb heq=>by
    have h1:=hall e he hb
    have h0:=(mem_ready.1 hr).1
    rw [heq] at h1
    rcases Nat.lt_or_ge i listed.size with h' | h'
    ·simp [h'] at h0 h1; rw [h0] at h1; cases h1
    ·simp [Array.getElem?_eq_none h'] at h1
   have hap:=hfree j oj hoj hji hjun hnot
   have hjk:j ≠ k:=fun e=>by
    subst e
    rw [hk] at hoj
    cases hoj
    rw [List.any_eq_true] at hke
    obtain ⟨e,he,h2⟩:=hke
    rw [Bool.and_eq_true,beq_iff_eq] at h2
    exact hnot e (by simpa using he) h2.1 h2.2
   obtain ⟨_,_,h3⟩:=Oper.apart_spec hap
   have hsi:∀ cs b,oi.op ≠ .select cs b:=fun cs b=>hsel i oi cs b hi
   have keep:∀ (a:Act),DoesK P ops k F oi v a → ∀ u,DoesK P ops k F oi v (a.put oj.dst u):=fun a hy u =>
    hy.of_same (execOp_put oi hsi a oj.dst u h3) (wanted_put oi a oj.dst u h3)
   have keepD:∀ (a:Act),DoesK P ops k F oi v a → ∀ d,DoesK P ops k F oi v { a with defers:=d :: a.defers }:=fun a hy d=>hy.of_same rfl rfl
   have h2:=wpOp_putD hoj hap (fun cs b=>hsel j oj cs b hoj) hQ keep keepD hy h1
   have hfree':∀ q oq,ops[q]?=some oq → q ≠ i → (listed.setIfInBounds j true).getD q true=false →
     (∀ e ∈ oq.after,Region.binds md e=true → e.on ≠ i) → oi.apart ops oq=true:=fun q oq hq hqi hun hno=>by
    refine hfree q oq hq hqi ?_ hno
    by_cases hjq:j=q
    ·subst hjq; exact hjun
    ·rw [getD_set_ne true hjq] at hun; exact hun
   refine wpOp_mono (fun a' w' h4=>?_) h2
   refine ⟨?_,ih (listed.setIfInBounds j true) a' hfree' (by rw [getD_set_ne false hjk]; exact hlk) (ready_mono hr (Ne.symm hji)) h4.1 ?_⟩
   ·have h5:=h4.2.1
    rw [Array.setIfInBounds_comm _ _ (Ne.symm hji)] at h5
    exact (hst _ _).1 h5
   ·rw [Array.setIfInBounds_comm _ _ hji]
    exact h4.2.2
theorem flow_takeK {i k t:Nat} {oi ok:Oper} {v:Value} {fuel:Nat} {listed:Array Bool} {a:Act} (hi:ops[i]?=some oi) (hk:ops[k]?=some ok) (hke:(ok.after.toList.any fun e=>Region.binds md e && e.on == i)=true) (hlk:listed.getD k false=false) (hik:i ≠ k) (hd:oi.dst=some t)
  (hs:Region.noSelect ops=true) (hf:Region.free md ops listed i=true) (hr:(Region.ready md ops listed).contains i=true)
  (hQ:Calm Q) (hst:∀ l w,F (l.setIfInBounds i true) w ↔ F l w) (hy:DoesK P ops k F oi v a)
  (h:wpAnyT P md ops Q F fuel (listed.setIfInBounds i true) (a.put (some t) v)):wpAnyT P md ops Q F (fuel + 1) listed a:=by
 rw [← hd] at h
 exact wpAnyT_firstK hi hk hke hik (Region.noSelect_spec hs) (fun c a w=>by rw [hd]; exact hQ c a _ _ w) hst fuel listed a (Region.free_spec hi hf) hlk (by simpa using hr) hy h
end
section
variable {P:Program} {ops:Array Oper} {Q:Exit → Act → World → Prop} {md:Region.Mode}
def Closed (md:Region.Mode) (ops:Array Oper) (l:Array Bool):Prop:=∀ (j:Nat) (o:Oper),ops[j]?=some o → l.getD j false=true → ∀ e ∈ o.after,Region.binds md e=true → l.getD e.on false=true
def closedB (md:Region.Mode) (ops:Array Oper) (l:Array Bool):Bool:=(List.range ops.size).all fun j=>!(l.getD j false) || (match ops[j]? with | none=>true | some o=>o.after.toList.all fun e=>!Region.binds md e || l.getD e.on false)
theorem closed_of {l:Array Bool} (h:closedB md ops l=true):Closed md ops l:=by
 intro j o ho hl e he hb
 have hj:j < ops.size:=(Array.getElem?_eq_some_iff.1 ho).1
 have h1:=List.all_eq_true.1 h j (List.mem_range.2 hj)
 simp only [ho,hl,Bool.not_true,Bool.false_or] at h1
 have h2:=List.all_eq_true.1 h1 e (by simpa using he)
 simpa [hb] using h2
def before (md:Region.Mode) (ops:Array Oper) (i:Nat):Nat → Nat → Bool
 | 0,_=>false
 | n + 1,k=>match ops[k]? with
  | none=>false
  | some o=>o.after.toList.any fun e=>Region.binds md e && (e.on == i || before md ops i n e.on)
theorem before_out {i:Nat} {l:Array Bool} (hc:Closed md ops l) (hi:l.getD i false=false):∀ (n k:Nat),before md ops i n k=true → ∃ o e,ops[k]?=some o∧e ∈ o.after∧Region.binds md e=true∧l.getD e.on false=false:=by
 intro n
 induction n with
 | zero=>intro k h; cases h
 | succ n ih =>
  intro k h
  unfold before at h
  split at h
  ·cases h
  ·rename_i o ho
   rw [List.any_eq_true] at h
   obtain ⟨e,he,h⟩:=h
   rw [Bool.and_eq_true,Bool.or_eq_true,beq_iff_eq] at h
   refine ⟨o,e,ho,by simpa using he,h.1,?_⟩
   rcases h.2 with h2 | h2
   ·rw [h2]; exact hi
   ·obtain ⟨o2,e2,ho2,he2,hb2,hl2⟩:=ih e.on h2
    cases hq:l.getD e.on false with
    | false=>rfl
    | true =>
     have:=hc e.on o2 ho2 hq e2 he2 hb2
     rw [hl2] at this
     cases this
theorem before_ready {i k n:Nat} {l:Array Bool} (hc:Closed md ops l) (hi:l.getD i false=false) (h:before md ops i n k=true) (hk:k ∈ Region.ready md ops l):False:=by
 obtain ⟨o,e,ho,he,hb,hl⟩:=before_out hc hi n k h
 obtain ⟨_,o2,ho2,hall⟩:=mem_ready.1 hk
 rw [ho] at ho2
 cases ho2
 have:=hall e he hb
 rw [hl] at this
 cases this
theorem getD_of_true {l:Array Bool} {i:Nat} (h:l.getD i true=false):l.getD i false=false:=by
 rcases Nat.lt_or_ge i l.size with h1 | h1
 ·simpa [Array.getD,h1] using h
 ·simp [Array.getD,Nat.not_lt.2 h1] at h
theorem Closed.set {l:Array Bool} (hc:Closed md ops l) {j:Nat} (hj:j ∈ Region.ready md ops l):Closed md ops (l.setIfInBounds j true):=by
 intro q o ho hq e he hb
 obtain ⟨hjun,oj,hoj,hall⟩:=mem_ready.1 hj
 have up:∀ r,l.getD r false=true → (l.setIfInBounds j true).getD r false=true:=by
  intro r hr
  by_cases h:j=r
  ·subst h
   have:=getD_of_true hjun
   rw [this] at hr
   cases hr
  ·rw [getD_set_ne false h]; exact hr
 by_cases h:j=q
 ·subst h
  rw [hoj] at ho
  cases ho
  exact up _ (hall e he hb)
 ·rw [getD_set_ne false h] at hq
  exact up _ (hc q o ho hq e he hb)
section
variable {F:Array Bool → Act → World → Prop}
def DoesV (P:Program) (ops:Array Oper) (k:Nat) (F:Array Bool → Act → World → Prop) (o:Oper) (v:Value) (a:Act):Prop :=
 (Region.wanted o (yielded ops a.tmps)=true∧∀ l b w,l.getD k false=false → F l b w → (execOp a.eval o).run P w=.ok (.value v) w) ∨
 (Region.wanted o (yielded ops a.tmps)=true∧∃ K args,(∀ l b w,l.getD k false=false → F l b w → (execOp a.eval o).run P w=.ok (.enter K args) w)∧∀ l b w,l.getD k false=false → F l b w → Calls P K args w (fun e w'=>e=.returned v∧F l b w')) ∨
 (Region.wanted o (yielded ops a.tmps)=false∧v=undef)
theorem DoesV.of_same {k:Nat} {o:Oper} {v:Value} {a a':Act} (hy:DoesV P ops k F o v a) (he:execOp a'.eval o=execOp a.eval o)
  (hw:Region.wanted o (yielded ops a'.tmps)=Region.wanted o (yielded ops a.tmps)):DoesV P ops k F o v a':=by
 unfold DoesV at *
 rw [he,hw]
 exact hy
theorem DoesV.wpOp {i k:Nat} {o:Oper} {v:Value} {a b:Act} {l:Array Bool} (hi:ops[i]?=some o) (hy:DoesV P ops k F o v a)
  {K:Act → World → Prop} {w:World} (hlk:l.getD k false=false) (hF:F l b w) (h:∀ w',F l b w' → K (a.put o.dst v) w'):wpOp P ops Q i K a w:=by
 unfold Go.wpOp
 simp only [hi]
 rcases hy with ⟨hw,hv⟩ | ⟨hw,K2,args,hv,hc⟩ | ⟨hw,rfl⟩
 ·simp only [hw,if_true,Oper.wp,hv l b w hlk hF,Oper.upon]; exact .inl (h w hF)
 ·simp only [hw,if_true,Oper.wp,hv l b w hlk hF,Oper.upon]
  refine .inl (Calls.mono (hc l b w hlk hF) fun e w' he=>?_)
  obtain ⟨rfl,h2⟩:=he
  exact h w' h2
 ·simp only [hw,Bool.false_eq_true,if_false]; exact h w hF
theorem wpAnyU_firstV {i k m:Nat} {oi:Oper} {v:Value} (hi:ops[i]?=some oi) (hik:i ≠ k) (hbk:before md ops i m k=true) (hsel:∀ (j:Nat) (o:Oper) cs b,ops[j]?=some o → o.op ≠ .select cs b)
  (hQ:∀ c a w,Q (.panic c) (a.put oi.dst v) w → Q (.panic c) a w) (hst:∀ l b w,l.getD k false=false → (F (l.setIfInBounds i true) (b.put oi.dst v) w ↔ F l b w)) :
  ∀ (fuel:Nat) (listed:Array Bool) (a:Act),
   (∀ j oj,ops[j]?=some oj → j ≠ i → listed.getD j true=false → (∀ e ∈ oj.after,Region.binds md e=true → e.on ≠ i) → oi.apart ops oj=true) →
   Closed md ops listed → listed.getD k false=false → i ∈ Region.ready md ops listed → DoesV P ops k F oi v a →
   wpAnyU P md ops Q F fuel (listed.setIfInBounds i true) (a.put oi.dst v) → wpAnyU P md ops Q F (fuel + 1) listed a:=by
 intro fuel
 induction fuel with
 | zero =>
  intro listed a _ hcl hlk hr hy H
  refine ⟨fun h=>(by rw [h] at hr; cases hr),fun j hj w hF=>?_⟩
  by_cases hji:j=i
  ·subst hji; exact hy.wpOp hi hlk hF fun w' hF'=>⟨(hst _ _ _ hlk).2 hF',H⟩
  ·have:=ready_mono hj hji
   rw [H.1] at this
   cases this
 | succ fuel ih =>
  intro listed a hfree hcl hlk hr hy H
  refine ⟨fun h=>(by rw [h] at hr; cases hr),fun j hj w hF=>?_⟩
  by_cases hji:j=i
  ·subst hji; exact hy.wpOp hi hlk hF fun w' hF'=>⟨(hst _ _ _ hlk).2 hF',H⟩
  ·have h1:=H.2 j (ready_mono hj hji) w ((hst _ _ _ hlk).2 hF)
   obtain ⟨hjun,oj,hoj,hall⟩:=mem_ready.1 hj
   have hiun:=(mem_ready.1 hr).1
   have hnot:∀ e ∈ oj.after,Region.binds md e=true → e.on ≠ i:=fun e he hb heq=>by
    have h1:=hall e he hb
    have h0:=getD_of_true hiun
    rw [heq,h0] at h1
    cases h1
   have hjk:j ≠ k:=fun e=>by
    subst e
    exact before_ready hcl (getD_of_true hiun) hbk hj
   have hap:=hfree j oj hoj hji hjun hnot
   obtain ⟨_,_,h3⟩:=Oper.apart_spec hap
   have hsi:∀ cs b,oi.op ≠ .select cs b:=fun cs b=>hsel i oi cs b hi
   have keep:∀ (a:Act),DoesV P ops k F oi v a → ∀ u,DoesV P ops k F oi v (a.put oj.dst u):=fun a hy u =>
    hy.of_same (execOp_put oi hsi a oj.dst u h3) (wanted_put oi a oj.dst u h3)
   have keepD:∀ (a:Act),DoesV P ops k F oi v a → ∀ d,DoesV P ops k F oi v { a with defers:=d :: a.defers }:=fun a hy d=>hy.of_same rfl rfl
   have h2:=wpOp_putD hoj hap (fun cs b=>hsel j oj cs b hoj) hQ keep keepD hy h1
   have hfree':∀ q oq,ops[q]?=some oq → q ≠ i → (listed.setIfInBounds j true).getD q true=false →
     (∀ e ∈ oq.after,Region.binds md e=true → e.on ≠ i) → oi.apart ops oq=true:=fun q oq hq hqi hun hno=>by
    refine hfree q oq hq hqi ?_ hno
    by_cases hjq:j=q
    ·subst hjq; exact hjun
    ·rw [getD_set_ne true hjq] at hun; exact hun
   have hlk':(listed.setIfInBounds j true).getD k false=false:=by rw [getD_set_ne false hjk]; exact hlk
   refine wpOp_mono (fun a' w' h4=>?_) h2
   refine ⟨?_,ih (listed.setIfInBounds j true) a' hfree' (hcl.set hj) hlk' (ready_mono hr (Ne.symm hji)) h4.1 ?_⟩
   ·have h5:=h4.2.1
    rw [Array.setIfInBounds_comm _ _ (Ne.symm hji)] at h5
    exact (hst _ _ _ hlk').1 h5
   ·rw [Array.setIfInBounds_comm _ _ hji]
    exact h4.2.2
end
def cntF (l:Array Bool):Nat:=l.toList.countP fun b=>!b
def FV (P:Program) (md:Region.Mode) (ops:Array Oper) (Q:Exit → Act → World → Prop) (k:Nat) (B:Array Bool → Act → World → Prop) (l:Array Bool) (b:Act) (w:World):Prop :=
 l.size=ops.size∧if l.getD k false=true then wpAny P md ops Q (cntF l) l b w else B l b w
section
variable {k:Nat} {B:Array Bool → Act → World → Prop}
theorem FV.of {l:Array Bool} {b:Act} {w:World} (hl:l.size=ops.size) (hk:l.getD k false=false) (h:B l b w):FV P md ops Q k B l b w:=⟨hl,by rw [hk]; exact h⟩
theorem FV.get {l:Array Bool} {b:Act} {w:World} (hk:l.getD k false=false) (h:FV P md ops Q k B l b w):B l b w:=by
 have:=h.2
 rw [hk] at this
 exact this
theorem flowV_begin {id:Nat} {a:Act} {w:World} (k:Nat) (B:Array Bool → Act → World → Prop) (l0:Array Bool) (hl:Array.replicate ops.size false=l0) (hm:P.follows .mixedOrders=true) (hQ:Calm Q) (hB:B l0 a w.drew)
  (h:Calm Q → wpAnyU P .any ops Q (FV P .any ops Q k B) ops.size l0 a):(Code.region id ops true).wp P Q a w:=by
 subst hl
 refine flow2_begin (FV P .any ops Q k B) _ rfl hm hQ (FV.of (by simp) ?_ hB) h
 rcases Nat.lt_or_ge k ops.size with h1 | h1 <;> simp [Array.getD,h1]
theorem flowV_take {i t m:Nat} {oi:Oper} {v:Value} {fuel:Nat} {listed:Array Bool} {a:Act} (hi:ops[i]?=some oi) (hik:i ≠ k) (hbk:before md ops i m k=true) (hcl:closedB md ops listed=true) (hlk:listed.getD k false=false) (hd:oi.dst=some t)
  (hs:Region.noSelect ops=true) (hf:Region.free md ops listed i=true) (hr:(Region.ready md ops listed).contains i=true)
  (hQ:Calm Q) (hst:∀ l b w,B (l.setIfInBounds i true) (b.put (some t) v) w ↔ B l b w) (hy:DoesV P ops k B oi v a)
  (h:wpAnyU P md ops Q (FV P md ops Q k B) fuel (listed.setIfInBounds i true) (a.put (some t) v)):wpAnyU P md ops Q (FV P md ops Q k B) (fuel + 1) listed a:=by
 rw [← hd] at h
 refine wpAnyU_firstV hi hik hbk (Region.noSelect_spec hs) (fun c a w=>by rw [hd]; exact hQ c a _ _ w) (fun l b w hk=>?_) fuel listed a (Region.free_spec hi hf) (closed_of hcl) hlk (by simpa using hr) ?_ h
 ·unfold FV
  rw [getD_set_ne false hik,hk,Array.size_setIfInBounds,hd]
  exact and_congr_right fun _=>hst l b w
 ·rcases hy with ⟨hw,hv⟩ | ⟨hw,K,args,hv,hc⟩ | hw
  ·exact .inl ⟨hw,fun l b w hk hF=>hv l b w hk (hF.get hk)⟩
  ·exact .inr (.inl ⟨hw,K,args,fun l b w hk hF=>hv l b w hk (hF.get hk),fun l b w hk hF=>(hc l b w hk (hF.get hk)).mono fun e w' he=>⟨he.1,FV.of hF.1 hk he.2⟩⟩)
  ·exact .inr (.inr hw)
theorem flowV_step {i t fuel:Nat} {oi:Oper} {listed:Array Bool} {a:Act} (hr:Region.ready md ops listed=[i]) (hi:ops[i]?=some oi) (hik:i ≠ k) (hlk:listed.getD k false=false) (hd:oi.dst=some t) (hw:Region.wanted oi (yielded ops a.tmps)=true)
  (hv:∀ w,B listed a w → ∃ v w',(execOp a.eval oi).run P w=.ok (.value v) w'∧B (listed.setIfInBounds i true) (a.put (some t) v) w'∧wpAnyU P md ops Q (FV P md ops Q k B) fuel (listed.setIfInBounds i true) (a.put (some t) v)):wpAnyU P md ops Q (FV P md ops Q k B) (fuel + 1) listed a:=by
 refine flow2_one hr fun w hF=>?_
 obtain ⟨v,w',hrun,h1,h2⟩:=hv w (hF.get hlk)
 unfold wpOp
 simp only [hi,hw,if_true,Oper.wp,hrun,Oper.upon,hd]
 exact .inl ⟨FV.of (by rw [Array.size_setIfInBounds]; exact hF.1) (by rw [getD_set_ne false hik]; exact hlk) h1,h2⟩
end
theorem countP_set:∀ (l:List Bool) (i:Nat),l[i]?=some false → (l.set i true).countP (fun b=>!b) + 1=l.countP fun b=>!b
 | [],_,h=>by cases h
 | b :: r,0,h=>by
  obtain rfl:b=false:=Option.some.inj h
  simp
 | b :: r,i + 1,h=>by
  have:=countP_set r i h
  rw [List.set_cons_succ,List.countP_cons,List.countP_cons]
  omega
theorem cnt_set {l:Array Bool} {i:Nat} (h:l.getD i true=false):cntF (l.setIfInBounds i true) + 1=cntF l:=by
 unfold cntF
 rw [Array.toList_setIfInBounds]
 refine countP_set _ _ ?_
 rw [Array.getElem?_toList]
 rcases Nat.lt_or_ge i l.size with h1 | h1
 ·rw [Array.getElem?_eq_getElem h1]
  simpa [Array.getD,h1] using h
 ·simp [Array.getD,Nat.not_lt.2 h1] at h
theorem ready_none {l:Array Bool} (hl:l.size=ops.size) (h:cntF l=0):Region.ready md ops l=[]:=by
 rcases hr:Region.ready md ops l with _ | ⟨i,r⟩
 ·rfl
 ·have hi:i ∈ Region.ready md ops l:=by rw [hr]; exact List.mem_cons_self ..
  have:=cnt_set (mem_ready.1 hi).1
  omega
section
variable {k:Nat} {B:Array Bool → Act → World → Prop}
theorem U_of_any:∀ (fuel:Nat) (l:Array Bool) (a:Act),l.size=ops.size → l.getD k false=true → cntF l=fuel → wpAnyU P md ops Q (FV P md ops Q k B) fuel l a:=by
 intro fuel
 have get:∀ {l:Array Bool} {b:Act} {w:World},l.getD k false=true → FV P md ops Q k B l b w → wpAny P md ops Q (cntF l) l b w:=fun hk h=>by
  have:=h.2
  rw [hk,if_pos rfl] at this
  exact this
 induction fuel with
 | zero =>
  intro l a hl hk hc
  refine ⟨ready_none hl hc,fun w hF=>?_⟩
  have h:=get hk hF
  rw [hc] at h
  exact h.2
 | succ fuel ih =>
  intro l a hl hk hc
  refine ⟨fun h0 w hF=>?_,fun i hi w hF=>?_⟩
  ·have h:=get hk hF
   rw [hc] at h
   exact h.1 h0
  ·have h:=get hk hF
   rw [hc] at h
   have hun:=(mem_ready.1 hi).1
   have hik:i ≠ k:=fun e=>by
    subst e
    rw [getD_of_true hun] at hk
    cases hk
   have hk':(l.setIfInBounds i true).getD k false=true:=by rw [getD_set_ne false hik]; exact hk
   have hc':cntF (l.setIfInBounds i true)=fuel:=by have:=cnt_set hun; omega
   refine wpOp_mono (fun a' w' h'=>?_) (h.2 i hi)
   exact ⟨⟨by rw [Array.size_setIfInBounds]; exact hl,by rw [hk',if_pos rfl,hc']; exact h'⟩,ih _ a' (by rw [Array.size_setIfInBounds]; exact hl) hk' hc'⟩
def forcedB (md:Region.Mode) (ops:Array Oper):List Nat → Array Bool → Bool
 | [],l=>(Region.ready md ops l).isEmpty
 | i :: r,l=>Region.ready md ops l == [i] && forcedB md ops r (l.setIfInBounds i true)
theorem any_of_ops:∀ (is:List Nat) (l:Array Bool) (a:Act) (w:World),forcedB md ops is l=true → wpOps P ops Q is a w → wpAny P md ops Q is.length l a w
 | [],l,a,w,hf,h=>⟨by simpa [forcedB] using hf,h⟩
 | i :: r,l,a,w,hf,h=>by
  simp only [forcedB,Bool.and_eq_true,beq_iff_eq] at hf
  refine ⟨fun e=>(by rw [hf.1] at e; cases e),fun j hj=>?_⟩
  rw [hf.1,List.mem_singleton] at hj
  subst hj
  rw [wpOps_cons] at h
  exact wpOp_mono (fun a' w' h'=>any_of_ops r _ a' w' hf.2 h') h
theorem ops_list:∀ (is:List Nat) (L:List Oper),(is.map fun i=>ops[i]?)=L.map some → wpOps P ops Q is=wpList P ops Q L
 | [],[],_=>by funext a w; simp [wpOps,wpList]
 | [],_ :: _,h=>by cases h
 | _ :: _,[],h=>by cases h
 | i :: r,o :: L,h=>by
  rw [List.map_cons,List.map_cons] at h
  obtain ⟨h0,h1⟩:=List.cons.inj h
  have ih:=ops_list r L h1
  funext a w
  simp only [wpOps,h0,wpList,ih]
theorem flowV_leave {fuel:Nat} {r:List Nat} {listed:Array Bool} {a:Act} {L:List Oper} (hlk:listed.getD k false=false) (hsz:listed.size=ops.size) (hf:forcedB md ops (k :: r) listed=true) (hn:r.length=fuel) (hc:cntF listed=fuel + 1) (hL:((k :: r).map fun i=>ops[i]?)=L.map some)
  (h:∀ w,B listed a w → wpList P ops Q L a w):wpAnyU P md ops Q (FV P md ops Q k B) (fuel + 1) listed a:=by
 have hr:Region.ready md ops listed=[k]:=by
  simp only [forcedB,Bool.and_eq_true,beq_iff_eq] at hf
  exact hf.1
 have hun:listed.getD k true=false:=(mem_ready.1 (by rw [hr]; exact List.mem_singleton.2 rfl)).1
 refine flow2_one hr fun w hF=>?_
 have h1:=h w (hF.get hlk)
 rw [← ops_list _ _ hL] at h1
 have h2:=any_of_ops _ _ _ _ hf h1
 have hk':(listed.setIfInBounds k true).getD k false=true:=by
  rcases Nat.lt_or_ge k listed.size with h3 | h3
  ·simp [Array.getD,h3]
  ·simp [Array.getD,Nat.not_lt.2 h3] at hun
 have hc':cntF (listed.setIfInBounds k true)=fuel:=by have:=cnt_set hun; omega
 rw [List.length_cons,hn] at h2
 refine wpOp_mono (fun a' w' h'=>?_) (h2.2 k (by rw [hr]; exact List.mem_singleton.2 rfl))
 exact ⟨⟨by rw [Array.size_setIfInBounds]; exact hsz,by rw [hk',if_pos rfl,hc']; exact h'⟩,U_of_any _ _ _ (by rw [Array.size_setIfInBounds]; exact hsz) hk' hc'⟩
end
theorem doesV_load {k:Nat} {B:Array Bool → Act → World → Prop} {o:Oper} {a:Act} (hw:Region.wanted o (yielded ops a.tmps)=true) (ty:TypeId) (x:Operand) (ho:o.op=.load ty x) (b off:Nat) (hx:a.eval x=.pointer (some ⟨b,off,none⟩)) (cs:List Value) (d:TypeDesc)
  (hc:∀ l b' w,B l b' w → w.rangeAt b off cs) (hu:P.underlying ty=some d) (hd:d.isRow=true) (hi:(P.info? ty).map (·.size)=some cs.length):DoesV P ops k B o (.agg cs.toArray) a :=
 .inl ⟨hw,fun l b' w _ hF=>by
  unfold execOp
  simp only [ho,hx,Instr.loadAt,Instr.sureAddr,Sem.run_bind,Sem.run_pure,Result.andThen_ok,run_loadVar_mid w b off ty cs d (hc l b' w hF) hu hd hi]⟩
theorem exec_append_own (w:World) (ev:Operand → Value) {o:Oper} (s x:Operand) (t:TypeId) (ho:o.op=.call { callee:=.builtin .append,args:=#[s,x],argTypes:=#[t,t] })
  (base:Nat) (e:TypeId) (i:TypeInfo) (z:Value) (size bytes:Nat) (ht:P.underlying t=some (.slice e)) (hi:P.info? e=some i) (hz:i.zero=some z)
  (hsize:i.size=size) (hby:i.bytes=bytes) (hzs:z.cells.size=size) (hsz:0 < size)
  (v:Value) (n:Nat) (xs:List Value) (hs:ev s=v) (hown:w.ownsRow base e size v n xs)
  (a:Addr) (m c:Nat) (news:List Value) (hx:ev x=.slice (some a) m c) (hl:news.length=m * size) (hnews:∀ j u,news[j]?=some u → w.cell? (a.add j)=some u) (h1:∀ u ∈ news,u.oneCell'=true)
  (h63:n + m ≤ maxLen) (hbytes:(n + m) * bytes ≤ 140737488355328) (hbase:base ≤ w.heap.size) :
  ∃ v' w',(execOp ev o).run P w=.ok (.value v') w'∧w'.ownsRow base e size v' (n + m) (xs ++ news)∧w.grownBy w' v.ownBlock:=by
 obtain ⟨v',w',hrun,r1,r2,_⟩:=run_append_own w base t o.type e i z size bytes ht hi hz hsize hby hzs hsz v n xs hown a m c news hl hnews h1 h63 hbytes hbase
 refine ⟨v',w',?_,r1,r2⟩
 simp [execOp,ho,resolve,invoke,builtin,hs,hx,hrun,Result.andThen]
theorem results_tmp_row_tmp {fn:Func} {p u q:Tmp} {ty:TypeId} (h:fn.results=#[.tmp u,.cell p ty,.tmp q]) (tmps:Array Value) (w:World) (g:Nat) (t:TypeId) (cs:Array Value) (fr:Nat × Nat) (d:TypeDesc)
  (hp:tmps.getD p undef=.pointer (some ⟨g,0,none⟩)) (hg:w.heap[g]?=some (.cells cs t fr))
  (hu:P.underlying ty=some d) (hd:(match d with | .struct _ | .array _ _=>true | _=>false)=true) (hi:(P.info? ty).map (·.size)=some cs.size) (v x:Value) (hv:tmps.getD u undef=v) (hx:tmps.getD q undef=x) :
  (results fn tmps).run P w=.ok (.tuple #[v,.agg cs,x]) w:=by
 have hl:=run_loadVar_row w g t ty cs fr d hg hu hd hi
 simp only [results,h]
 rw [Array.getD_eq_getD_getElem?] at hp hv hx
 simp [Sem.run_bind,Result.andThen,hp,hv,hx,asAddr,hl]
end
theorem putL {l:List Value} {d:List Deferred} {t:Nat} {v:Value}:Act.put ⟨l.toArray,d⟩ (some t) v=⟨(l.set t v).toArray,d⟩:=by
 unfold Act.put
 simp
def okT (md:Region.Mode) (ops:Array Oper) (l:Array Bool) (i:Nat):Bool:=Region.noSelect ops && (Region.free md ops l i && (Region.ready md ops l).contains i)
def okK (md:Region.Mode) (ops:Array Oper) (l:Array Bool) (i k:Nat):Bool:=okT md ops l i && ((match ops[k]? with | none=>false | some o=>o.after.toList.any fun e=>Region.binds md e && e.on == i) && (!l.getD k false && i != k))
section
variable {P:Program} {ops:Array Oper} {Q:Exit → Act → World → Prop} {md:Region.Mode} {F:Array Bool → World → Prop} {fuel:Nat} {listed:Array Bool} {a:Act} {op:Op} {ty:TypeId} {ps:String} {af:Array Edge} {g:Option (Nat × Bool)}
theorem okT_spec {i:Nat} (h:okT md ops listed i=true):Region.noSelect ops=true∧Region.free md ops listed i=true∧(Region.ready md ops listed).contains i=true:=by
 unfold okT at h
 simpa only [Bool.and_eq_true] using h
theorem tk (i t:Nat) (v:Value) (hi:ops[i]?=some ⟨some t,op,ty,ps,af,g⟩) (hok:okT md ops listed i=true) (hQ:Calm Q) (hst:∀ l w,F (l.setIfInBounds i true) w ↔ F l w)
  (hw:Region.wanted ⟨some t,op,ty,ps,af,g⟩ (yielded ops a.tmps)=true) (hv:∀ l w,F l w → (execOp a.eval ⟨some t,op,ty,ps,af,g⟩).run P w=.ok (.value v) w)
  (h:wpAnyT P md ops Q F fuel (listed.setIfInBounds i true) (a.put (some t) v)):wpAnyT P md ops Q F (fuel + 1) listed a:=by
 obtain ⟨h1,h2,h3⟩:=okT_spec hok
 exact flow_take hi rfl h1 h2 h3 hQ hst (.inl ⟨hw,hv⟩) h
theorem ts (i t:Nat) (hi:ops[i]?=some ⟨some t,op,ty,ps,af,g⟩) (hok:okT md ops listed i=true) (hQ:Calm Q) (hst:∀ l w,F (l.setIfInBounds i true) w ↔ F l w)
  (hw:Region.wanted ⟨some t,op,ty,ps,af,g⟩ (yielded ops a.tmps)=false) (h:wpAnyT P md ops Q F fuel (listed.setIfInBounds i true) (a.put (some t) undef)):wpAnyT P md ops Q F (fuel + 1) listed a:=by
 obtain ⟨h1,h2,h3⟩:=okT_spec hok
 exact flow_take hi rfl h1 h2 h3 hQ hst (.inr (.inr ⟨hw,rfl⟩)) h
theorem tc (i t:Nat) {v:Value} {K:Nat} {args:Array Value} (hi:ops[i]?=some ⟨some t,op,ty,ps,af,g⟩) (hok:okT md ops listed i=true) (hQ:Calm Q) (hst:∀ l w,F (l.setIfInBounds i true) w ↔ F l w)
  (hw:Region.wanted ⟨some t,op,ty,ps,af,g⟩ (yielded ops a.tmps)=true) (he:∀ l w,F l w → (execOp a.eval ⟨some t,op,ty,ps,af,g⟩).run P w=.ok (.enter K args) w) (hc:∀ l w,F l w → Calls P K args w (fun e w'=>e=.returned v∧F l w'))
  (h:wpAnyT P md ops Q F fuel (listed.setIfInBounds i true) (a.put (some t) v)):wpAnyT P md ops Q F (fuel + 1) listed a:=by
 obtain ⟨h1,h2,h3⟩:=okT_spec hok
 exact flow_take hi rfl h1 h2 h3 hQ hst (.inr (.inl ⟨hw,K,args,he,hc⟩)) h
theorem okK_spec {i k:Nat} (h:okK md ops listed i k=true):okT md ops listed i=true∧(∃ o,ops[k]?=some o∧(o.after.toList.any fun e=>Region.binds md e && e.on == i)=true)∧listed.getD k false=false∧i ≠ k:=by
 unfold okK at h
 simp only [Bool.and_eq_true,Bool.not_eq_true',bne_iff_ne] at h
 obtain ⟨h1,h2,h3,h4⟩:=h
 refine ⟨h1,?_,h3,h4⟩
 split at h2
 ·cases h2
 ·rename_i o ho
  exact ⟨o,ho,h2⟩
theorem tkK (i k t:Nat) (v:Value) (hi:ops[i]?=some ⟨some t,op,ty,ps,af,g⟩) (hok:okK md ops listed i k=true) (hQ:Calm Q) (hst:∀ l w,F (l.setIfInBounds i true) w ↔ F l w)
  (hw:Region.wanted ⟨some t,op,ty,ps,af,g⟩ (yielded ops a.tmps)=true) (hv:∀ l w,l.getD k false=false → F l w → (execOp a.eval ⟨some t,op,ty,ps,af,g⟩).run P w=.ok (.value v) w)
  (h:wpAnyT P md ops Q F fuel (listed.setIfInBounds i true) (a.put (some t) v)):wpAnyT P md ops Q F (fuel + 1) listed a:=by
 obtain ⟨h0,⟨o,ho,he⟩,hl,hik⟩:=okK_spec hok
 obtain ⟨h1,h2,h3⟩:=okT_spec h0
 exact flow_takeK hi ho he hl hik rfl h1 h2 h3 hQ hst (.inl ⟨hw,hv⟩) h
theorem tcK (i k t:Nat) {v:Value} {K:Nat} {args:Array Value} (hi:ops[i]?=some ⟨some t,op,ty,ps,af,g⟩) (hok:okK md ops listed i k=true) (hQ:Calm Q) (hst:∀ l w,F (l.setIfInBounds i true) w ↔ F l w)
  (hw:Region.wanted ⟨some t,op,ty,ps,af,g⟩ (yielded ops a.tmps)=true) (he:∀ l w,l.getD k false=false → F l w → (execOp a.eval ⟨some t,op,ty,ps,af,g⟩).run P w=.ok (.enter K args) w) (hc:∀ l w,l.getD k false=false → F l w → Calls P K args w (fun e w'=>e=.returned v∧F l w'))
  (h:wpAnyT P md ops Q F fuel (listed.setIfInBounds i true) (a.put (some t) v)):wpAnyT P md ops Q F (fuel + 1) listed a:=by
 obtain ⟨h0,⟨o,ho,hke⟩,hl,hik⟩:=okK_spec hok
 obtain ⟨h1,h2,h3⟩:=okT_spec h0
 exact flow_takeK hi ho hke hl hik rfl h1 h2 h3 hQ hst (.inr (.inl ⟨hw,K,args,he,hc⟩)) h
theorem tp (i t:Nat) {v:Value} (hi:ops[i]?=some ⟨some t,op,ty,ps,af,g⟩) (hQ:Calm Q) (hst:∀ l w,F (l.setIfInBounds i true) w ↔ F l w) (h:wpAnyT P md ops Q F fuel (listed.setIfInBounds i true) (a.put (some t) v)) (hok:okT md ops listed i=true:=by kernel_rfl)
  (hw:Region.wanted ⟨some t,op,ty,ps,af,g⟩ (yielded ops a.tmps)=true:=by rfl)
  (hv:∀ l w,F l w → (execOp a.eval ⟨some t,op,ty,ps,af,g⟩).run P w=.ok (.value v) w:=by (intro l w' hF; go_simp; try with_reducible rfl)):wpAnyT P md ops Q F (fuel + 1) listed a:=tk i t v hi hok hQ hst hw hv h
theorem tt (i t:Nat) {v:Value} (hi:ops[i]?=some ⟨some t,op,ty,ps,af,g⟩) (hQ:Calm Q) (hst:∀ l w,F (l.setIfInBounds i true) w ↔ F l w) (h:wpAnyT P md ops Q F fuel (listed.setIfInBounds i true) (a.put (some t) v)) (hok:okT md ops listed i=true:=by kernel_rfl)
  (hw:Region.wanted ⟨some t,op,ty,ps,af,g⟩ (yielded ops a.tmps)=true:=by rfl)
  (hv:∀ l w,F l w → (execOp a.eval ⟨some t,op,ty,ps,af,g⟩).run P w=.ok (.value v) w:=by (intro l w' hF; have hq:=HD.out _ hF; go_simp; try with_reducible rfl)):wpAnyT P md ops Q F (fuel + 1) listed a:=tk i t v hi hok hQ hst hw hv h
theorem tsq (i t:Nat) (hi:ops[i]?=some ⟨some t,op,ty,ps,af,g⟩) (hQ:Calm Q) (hst:∀ l w,F (l.setIfInBounds i true) w ↔ F l w) (h:wpAnyT P md ops Q F fuel (listed.setIfInBounds i true) (a.put (some t) undef)) (hok:okT md ops listed i=true:=by kernel_rfl)
  (hw:Region.wanted ⟨some t,op,ty,ps,af,g⟩ (yielded ops a.tmps)=false:=by rfl):wpAnyT P md ops Q F (fuel + 1) listed a:=ts i t hi hok hQ hst hw h
theorem ttK (i k t:Nat) {v:Value} (hi:ops[i]?=some ⟨some t,op,ty,ps,af,g⟩) (hQ:Calm Q) (hst:∀ l w,F (l.setIfInBounds i true) w ↔ F l w) (h:wpAnyT P md ops Q F fuel (listed.setIfInBounds i true) (a.put (some t) v)) (hok:okK md ops listed i k=true:=by kernel_rfl)
  (hw:Region.wanted ⟨some t,op,ty,ps,af,g⟩ (yielded ops a.tmps)=true:=by rfl)
  (hv:∀ l w,l.getD k false=false → F l w → (execOp a.eval ⟨some t,op,ty,ps,af,g⟩).run P w=.ok (.value v) w:=by (intro l w' hlk hF; have hq:=HD.out _ hlk hF; go_simp; try with_reducible rfl)):wpAnyT P md ops Q F (fuel + 1) listed a:=tkK i k t v hi hok hQ hst hw hv h
end
end Go.Proofs.YtcoookehfhhhdaaGreatDoor.c
