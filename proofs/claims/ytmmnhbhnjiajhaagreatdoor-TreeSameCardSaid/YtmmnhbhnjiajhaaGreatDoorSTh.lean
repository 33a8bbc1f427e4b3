/- Regions that draw their order, with one load of a row that may come before or behind a call: it is taken first. No condition. -/
import Derived.Test.YtmmnhbhnjiajhaaGreatDoorSLib
import Derived.OrdersHeld
import Derived.Deep.MidRow
namespace Go.Proofs.YtmmnhbhnjiajhaaGreatDoor.c
open Go.RowKit
set_option linter.unusedVariables false
set_option linter.unusedSimpArgs false
section
variable {P:Program} {ops:Array Oper} {Q:Exit → Act → World → Prop} {md:Region.Mode}
theorem wpOp_putD {D:Act → Prop} {j:Nat} {oi oj:Oper} {v:Value} (hj:ops[j]?=some oj) (hap:oi.apart ops oj=true)
  (hsj:∀ cs b,oj.op ≠ .select cs b) (hQ:∀ c a w,Q (.panic c) (a.put oi.dst v) w → Q (.panic c) a w)
  (keep:∀ a,D a → ∀ u,D (a.put oj.dst u)) (keepD:∀ a,D a → ∀ d,D { a with defers:=d :: a.defers }) {K:Act → World → Prop} {a:Act} {w:World}
  (hy:D a) (h:wpOp P ops Q j K (a.put oi.dst v) w):wpOp P ops Q j (fun a' w'=>D a'∧K (a'.put oi.dst v) w') a w:=by
 obtain ⟨h1,h2,h3⟩:=Oper.apart_spec hap
 unfold Go.wpOp at *
 simp only [hj] at *
 rw [wanted_put oj a oi.dst v h1] at h
 split
 ·rename_i hw
  simp only [hw,if_true] at h
  rcases h with h | ⟨hasks,hlets⟩
  case inr=>exact .inr ⟨by unfold Oper.asks at *; rw [execOp_put oj hsj a oi.dst v h1] at hasks; exact hasks,hlets⟩
  refine .inl ?_
  unfold Oper.wp at *
  rw [execOp_put oj hsj a oi.dst v h1] at h
  generalize (execOp a.eval oj).run P w=r at *
  cases r with
  | ok n w' =>
   cases n <;> simp only [Oper.upon] at h ⊢
   case value u=>exact ⟨keep a hy u,by rw [← Act.put_comm a v u h2]; exact h⟩
   case skip=>exact ⟨keep a hy _,by rw [← Act.put_comm a v undef h2]; exact h⟩
   case defer d =>
    refine ⟨keep _ (keepD a hy d) _,?_⟩
    rw [← Act.put_comm _ v undef h2,← Act.put_defers]
    exact h
   case enter f args =>
    refine Calls.mono h fun e w'' he=>?_
    cases e with
    | returned u=>exact ⟨keep a hy u,by rw [← Act.put_comm a v u h2]; exact he⟩
    | panicked c=>exact hQ _ _ _ he
    | outgrown=>exact he
   case row row args=>exact Rows.mono h fun u w'' he=>⟨keep a hy u,by rw [← Act.put_comm a v u h2]; exact he⟩
  | halt x w' =>
   cases x <;> simp only [Oper.upon] at h ⊢
   case panic u=>exact hQ _ _ _ h
 ·rename_i hw
  simp only [hw] at h
  exact ⟨keep a hy _,by rw [← Act.put_comm a v undef h2]; exact h⟩
def Calm (Q:Exit → Act → World → Prop):Prop:=∀ c a t v w,Q (.panic c) (a.put (some t) v) w → Q (.panic c) a w
def forcedB (md:Region.Mode) (ops:Array Oper):List Nat → Array Bool → Bool
 | [],l=>(Region.ready md ops l).isEmpty
 | i :: r,l=>Region.ready md ops l == [i] && forcedB md ops r (l.setIfInBounds i true)
theorem any_of_ops:∀ (is:List Nat) (l:Array Bool) (a:Act) (w:World),forcedB md ops is l=true → wpOps P ops Q is a w → wpAny P md ops Q is.length l a w
 | [],l,a,w,hf,h=>⟨by simpa [forcedB] using hf,h⟩
 | i :: r,l,a,w,hf,h=>by
  simp only [forcedB,Bool.and_eq_true,beq_iff_eq] at hf
  refine ⟨fun e=>(by rw [hf.1] at e; cases e),fun j hj=>?_⟩
  rw [hf.1,List.mem_singleton] at hj
  subst hj
  rw [wpOps_cons] at h
  exact wpOp_mono (fun a' w' h'=>any_of_ops r _ a' w' hf.2 h') h
theorem ops_list:∀ (is:List Nat) (L:List Oper),(is.map fun i=>ops[i]?)=L.map some → wpOps P ops Q is=wpList P ops Q L
 | [],[],_=>by funext a w; simp [wpOps,wpList]
 | [],_ :: _,h=>by cases h
 | _ :: _,[],h=>by cases h
 | i :: r,o :: L,h=>by
  rw [List.map_cons,List.map_cons] at h
  obtain ⟨h0,h1⟩:=List.cons.inj h
  have ih:=ops_list r L h1
  funext a w
  simp only [wpOps,h0,wpList,ih]
def hoistB (md:Region.Mode) (ops:Array Oper) (i:Nat):Nat → List Nat → Array Bool → Bool
 | 0,r,l=>Region.ready md ops l == [i] && forcedB md ops r (l.setIfInBounds i true)
 | _ + 1,[],_=>false
 | n + 1,k :: r,l=>(Region.ready md ops l == [i,k] || Region.ready md ops l == [k,i]) && (forcedB md ops (k :: r) (l.setIfInBounds i true) && hoistB md ops i n r (l.setIfInBounds k true))
def wpOpsY (P:Program) (ops:Array Oper) (Q:Exit → Act → World → Prop) (Y:World → Prop):Nat → List Nat → Act → World → Prop
 | 0,r=>wpOps P ops Q r
 | _ + 1,[]=>wpOps P ops Q []
 | n + 1,k :: r=>wpOp P ops Q k (fun a w=>Y w∧wpOpsY P ops Q Y n r a w)
def wpListY (P:Program) (ops:Array Oper) (Q:Exit → Act → World → Prop) (Y:World → Prop):Nat → List Oper → Act → World → Prop
 | 0,L=>wpList P ops Q L
 | _ + 1,[]=>wpList P ops Q []
 | n + 1,o :: L=>fun a w=>if Region.wanted o (yielded ops a.tmps) then o.wp P a w (fun a w=>Y w∧wpListY P ops Q Y n L a w) Q ∨ (o.asks P a w∧LetsOut Q) else Y w∧wpListY P ops Q Y n L (a.put o.dst undef) w
theorem opsY_list {Y:World → Prop}:∀ (n:Nat) (is:List Nat) (L:List Oper),(is.map fun i=>ops[i]?)=L.map some → wpOpsY P ops Q Y n is=wpListY P ops Q Y n L
 | 0,is,L,h=>ops_list is L h
 | n + 1,[],[],_=>ops_list [] [] rfl
 | n + 1,[],_ :: _,h=>by cases h
 | n + 1,_ :: _,[],h=>by cases h
 | n + 1,i :: r,o :: L,h=>by
  rw [List.map_cons,List.map_cons] at h
  obtain ⟨h0,h1⟩:=List.cons.inj h
  have ih:=opsY_list (Y:=Y) n r L h1
  funext a w
  simp only [wpOpsY,wpOp,h0,wpListY,ih]
theorem wpOps_of_Y {Y:World → Prop}:∀ (n:Nat) (r:List Nat) (a:Act) (w:World),wpOpsY P ops Q Y n r a w → wpOps P ops Q r a w
 | 0,_,_,_,h=>h
 | _ + 1,[],_,_,h=>h
 | n + 1,k :: r,a,w,h=>by
  rw [wpOps_cons]
  exact wpOp_mono (fun a' w' h'=>wpOps_of_Y n r a' w' h'.2) h
theorem any_hoist {Y:World → Prop} {i t:Nat} {v:Value} {oi:Oper} (hi:ops[i]?=some oi) (hd:oi.dst=some t) (hw:∀ a:Act,Region.wanted oi (yielded ops a.tmps)=true) (hsel:Region.noSelect ops=true) (hQ:Calm Q) :
  ∀ (n:Nat) (r:List Nat) (listed:Array Bool) (a:Act) (w:World),hoistB md ops i n r listed=true → (r.take n).all (fun k=>match ops[k]? with | some oj=>oi.apart ops oj | none=>false)=true → Y w → (∀ w,Y w → (execOp a.eval oi).run P w=.ok (.value v) w) →
   wpOpsY P ops Q Y n r (a.put (some t) v) w → wpAny P md ops Q (r.length + 1) listed a w:=by
 intro n
 have hgo:∀ (listed:Array Bool) (a:Act) (w:World) (r:List Nat),Y w → (∀ w,Y w → (execOp a.eval oi).run P w=.ok (.value v) w) → forcedB md ops r (listed.setIfInBounds i true)=true → wpOps P ops Q r (a.put (some t) v) w →
   wpOp P ops Q i (wpAny P md ops Q r.length (listed.setIfInBounds i true)) a w:=fun listed a w r hY hv hf h=>by
  unfold Go.wpOp
  simp only [hi,hw a,if_true,Oper.wp,hv w hY,Oper.upon,hd]
  exact .inl (any_of_ops r _ _ _ hf h)
 induction n with
 | zero =>
  intro r listed a w hB _ hY hv h
  simp only [hoistB,Bool.and_eq_true,beq_iff_eq] at hB
  refine ⟨fun h0=>(by rw [hB.1] at h0; cases h0),fun j hj=>?_⟩
  rw [hB.1,List.mem_singleton] at hj
  subst hj
  exact hgo listed a w r hY hv hB.2 h
 | succ n ih =>
  intro r listed a w hB hap hY hv h
  cases r with
  | nil=>cases hB
  | cons k r =>
   simp only [hoistB,Bool.and_eq_true,Bool.or_eq_true,beq_iff_eq] at hB
   obtain ⟨hr,hf,hB2⟩:=hB
   rw [List.take_succ_cons,List.all_cons,Bool.and_eq_true] at hap
   refine ⟨fun h0=>(by rcases hr with hr | hr <;> rw [hr] at h0 <;> cases h0),fun j hj=>?_⟩
   have hjk:j=i ∨ j=k:=by
    rcases hr with hr | hr <;> rw [hr] at hj <;> simp at hj <;> rcases hj with rfl | rfl <;> simp
   rcases hjk with rfl | rfl
   ·exact hgo listed a w (k :: r) hY hv hf (wpOps_of_Y (n + 1) (k :: r) _ _ h)
   ·cases hoj:ops[j]? with
    | none=>rw [hoj] at hap; exact absurd hap.1 (by simp)
    | some oj =>
     rw [hoj] at hap
     obtain ⟨_,_,h3⟩:=Oper.apart_spec hap.1
     have hsl:=Region.noSelect_spec hsel
     have hsi:∀ cs b,oi.op ≠ .select cs b:=fun cs b=>hsl i oi cs b hi
     have hp:=wpOp_putD (P:=P) (Q:=Q) (D:=fun a:Act=>∀ w,Y w → (execOp a.eval oi).run P w=.ok (.value v) w) (j:=j) (oi:=oi) (oj:=oj) (v:=v) hoj hap.1 (fun cs b=>hsl j oj cs b hoj) (fun c a w=>by rw [hd]; exact hQ c a _ _ w)
      (fun a hy u w hw2=>by rw [execOp_put oi hsi a oj.dst u h3]; exact hy w hw2) (fun a hy d=>hy) (K:=fun a' w'=>Y w'∧wpOpsY P ops Q Y n r a' w') (a:=a) (w:=w) hv (by rw [hd]; exact h)
     exact wpOp_mono (fun a' w' h'=>ih r _ a' w' hB2 hap.2 h'.2.1 h'.1 (by rw [hd] at h'; exact h'.2.2)) hp
theorem putL {l:List Value} {d:List Deferred} {t:Nat} {v:Value}:Act.put ⟨l.toArray,d⟩ (some t) v=⟨(l.set t v).toArray,d⟩:=by
 unfold Act.put
 simp
def okT (md:Region.Mode) (ops:Array Oper) (l:Array Bool) (i:Nat):Bool:=Region.noSelect ops && (Region.free md ops l i && (Region.ready md ops l).contains i)
theorem okT_spec {l:Array Bool} {i:Nat} (h:okT md ops l i=true):Region.noSelect ops=true∧Region.free md ops l i=true∧(Region.ready md ops l).contains i=true:=by
 unfold okT at h
 simpa only [Bool.and_eq_true] using h
variable {fuel:Nat} {listed:Array Bool} {a:Act} {w:World} {op:Op} {ty:TypeId} {ps:String} {af:Array Edge} {g:Option (Nat × Bool)}
theorem ta (i t:Nat) {v:Value} (hi:ops[i]?=some ⟨some t,op,ty,ps,af,g⟩) (hQ:Calm Q) (h:wpAny P md ops Q fuel (listed.setIfInBounds i true) (a.put (some t) v) w) (hok:okT md ops listed i=true:=by kernel_rfl)
  (hw:Region.wanted ⟨some t,op,ty,ps,af,g⟩ (yielded ops a.tmps)=true:=by rfl) (hv:∀ w,(execOp a.eval ⟨some t,op,ty,ps,af,g⟩).run P w=.ok (.value v) w:=by (intro w'; go_simp; try with_reducible rfl)):wpAny P md ops Q (fuel + 1) listed a w:=by
 obtain ⟨h1,h2,h3⟩:=okT_spec hok
 exact wpAny_take hi h1 h2 h3 (fun c a w=>hQ c a _ _ w) (.inl ⟨hw,hv⟩) h
theorem th (i t n:Nat) (r:List Nat) (L:List Oper) {v:Value} (Y:World → Prop) (hi:ops[i]?=some ⟨some t,op,ty,ps,af,none⟩) (hL:(r.map fun i=>ops[i]?)=L.map some) (hn:r.length=fuel) (hQ:Calm Q) (hY:Y w) (hv:∀ w,Y w → (execOp a.eval ⟨some t,op,ty,ps,af,none⟩).run P w=.ok (.value v) w)
  (h:wpListY P ops Q Y n L (a.put (some t) v) w) (hB:(hoistB md ops i n r listed && ((r.take n).all (fun k=>match ops[k]? with | some oj=>Oper.apart ops ⟨some t,op,ty,ps,af,none⟩ oj | none=>false) && Region.noSelect ops))=true:=by kernel_rfl):wpAny P md ops Q (fuel + 1) listed a w:=by
 simp only [Bool.and_eq_true] at hB
 subst hn
 rw [← opsY_list (Y:=Y) n r L hL] at h
 exact any_hoist hi rfl (fun a=>by simp [Region.wanted]) hB.2.2 hQ n r listed a w hB.1 hB.2.1 hY hv h
theorem ly_op {Y:World → Prop} {n:Nat} {o:Oper} {L:List Oper} (hgd:o.guard=none) (h:o.wp P a w (fun a w=>Y w∧wpListY P ops Q Y n L a w) Q):wpListY P ops Q Y (n + 1) (o :: L) a w:=by
 simp only [wpListY]
 rw [if_pos (by simp [Region.wanted,hgd])]
 exact .inl h
theorem ly_call {Y:World → Prop} {n:Nat} {o:Oper} {L:List Oper} {K:FuncId} {args:Array Value} {Q2:Ending → World → Prop} (hgd:o.guard=none) (he:(execOp a.eval o).run P w=.ok (.enter K args) w) (hc:Calls P K args w Q2) (hr:∀ v w',Q2 (.returned v) w' → Y w'∧wpListY P ops Q Y n L (a.put o.dst v) w')
  (hp:∀ c w',Q2 (.panicked c) w' → Q (.panic c) a w') (ho:∀ w',¬ Q2 .outgrown w'):wpListY P ops Q Y (n + 1) (o :: L) a w:=by
 refine ly_op hgd ?_
 simp only [Oper.wp,he,Oper.upon]
 refine hc.mono fun e w' h=>?_
 cases e with
 | returned v=>exact hr v w' h
 | panicked c=>exact hp c w' h
 | outgrown=>exact (ho w' h).elim
end
end Go.Proofs.YtmmnhbhnjiajhaaGreatDoor.c
