/- What of code functions need, told plainly: it is right and sound, and cut again it is the same. No program in sight. Going through what functions call, told plainly. No program in sight. How the reference goes through what functions call, told plainly. No program in sight. -/
import Derived.Test.YtcoookehfhhhdaaGreatDoorThr
namespace Go.Proofs.YtcoookehfhhhdaaGreatDoor.c
set_option linter.unusedVariables false
set_option linter.unusedSimpArgs false

def CallsTo (l:List Fc) (i j:Nat):Prop:=∃ x,x ∈ (l.getD i default).code∧x.op=16∧indexS l x.name=j
inductive Need (l:List Fc) (R:Nat → Prop):Nat → Prop
 | root {i:Nat}:R i → Need l R i
 | call {i j:Nat}:Need l R i → CallsTo l i j → Need l R j
theorem index_spec (l:List Fc) (n:ByteArray):(indexS l n=-1∧∀ k,k < l.length → (l.getD k default).name.toList ≠ n.toList) ∨ ∃ k:Nat,indexS l n=k∧k < l.length∧(l.getD k default).name.toList=n.toList∧∀ j,j < k → (l.getD j default).name.toList ≠ n.toList:=by
 unfold indexS
 rcases findI_cases (fun k=>(l.getD k default).name.toList == n.toList) l.length with ⟨e,h⟩ | ⟨k,e,hk,hp,h⟩
 ·exact .inl ⟨e,fun k hk=>by have:=h k hk; simpa using this⟩
 ·exact .inr ⟨k,e,hk,by simpa using hp,fun j hj=>by have:=h j hj; simpa using this⟩
theorem name_one {l:List Fc} (hv:validS l=0) {i j:Nat} (hi:i < l.length) (hj:j < l.length) (e:(l.getD i default).name.toList=(l.getD j default).name.toList):i=j:=by
 have h1:=((valid_parts hv).2.2.2 i hi).2
 have h2:=((valid_parts hv).2.2.2 j hj).2
 have e2:indexS l (l.getD i default).name=indexS l (l.getD j default).name:=by
  unfold indexS
  rw [e]
 omega
structure CutOf (l:List Fc) (N:Nat → Prop) (m:List Fc) (P:List Nat):Prop where
 nd:P.Nodup
 all:∀ k,k ∈ P ↔ k < l.length∧N k
 inc:P.Pairwise (· < ·)
 len:m.length=P.length
 like:∀ p,p < P.length → Like (l.getD (P.getD p 0) default) (m.getD p default)
theorem CutOf.pos {l:List Fc} {N:Nat → Prop} {m:List Fc} {P:List Nat} (c:CutOf l N m P) {k:Nat} (hk:k < l.length) (hn:N k):∃ p,p < P.length∧P.getD p 0=k:=by
 obtain ⟨p,hp,e⟩:=List.getElem_of_mem ((c.all k).2 ⟨hk,hn⟩)
 exact ⟨p,hp,by rw [List.getD,List.getElem?_eq_getElem hp]; exact e⟩
theorem CutOf.at_ {l:List Fc} {N:Nat → Prop} {m:List Fc} {P:List Nat} (c:CutOf l N m P) {p:Nat} (hp:p < P.length):P.getD p 0 < l.length∧N (P.getD p 0):=by
 refine (c.all _).1 ?_
 rw [List.getD,List.getElem?_eq_getElem hp]
 exact List.getElem_mem hp
theorem CutOf.inj {l:List Fc} {N:Nat → Prop} {m:List Fc} {P:List Nat} (c:CutOf l N m P) {p q:Nat} (hp:p < P.length) (hq:q < P.length) (e:P.getD p 0=P.getD q 0):p=q:=by
 rw [List.getD,List.getD,List.getElem?_eq_getElem hp,List.getElem?_eq_getElem hq] at e
 simp only [Option.getD_some] at e
 have h:=c.inc
 rw [List.pairwise_iff_getElem] at h
 rcases Nat.lt_trichotomy p q with h1 | h1 | h1
 ·have:=h p q hp hq h1; omega
 ·exact h1
 ·have:=h q p hq hp h1; omega
theorem CutOf.index {l:List Fc} {N:Nat → Prop} {m:List Fc} {P:List Nat} (c:CutOf l N m P) (hv:validS l=0) {n:ByteArray} {k p:Nat} (hk:indexS l n=k) (hp:p < P.length) (e:P.getD p 0=k):indexS m n=p:=by
 rcases index_spec l n with ⟨e1,_⟩ | ⟨k1,e1,hk1,hn1,_⟩
 ·omega
 obtain rfl:k1=k:=by omega
 rcases index_spec m n with ⟨_,h⟩ | ⟨q,e2,hq,hn2,_⟩
 ·exact absurd (by rw [(c.like p hp).name,e,hn1]) (h p (by rw [c.len]; exact hp))
 ·rw [e2]
  have hq':q < P.length:=by rw [← c.len]; exact hq
  rw [(c.like q hq').name] at hn2
  have:=name_one hv (c.at_ hq').1 hk1 (hn2.trans hn1.symm)
  rw [c.inj hq' hp (this.trans e.symm)]
theorem CutOf.valid {l:List Fc} {N:Nat → Prop} {m:List Fc} {P:List Nat} (c:CutOf l N m P) (hv:validS l=0) (cl:∀ i j,i < l.length → N i → CallsTo l i j → N j):validS m=0:=by
 obtain ⟨h1,h2,h3,h4⟩:=valid_parts hv
 have hlen:P.length ≤ l.length:=nodup_len _ _ c.nd fun k hk=>((c.all k).1 hk).1
 refine validS_good ?_ ?_
 ·rintro (e | e | ⟨f,hf,e⟩)
  ·rw [c.len] at e; omega
  ·have:countS m ≤ countS l:=by
    unfold countS
    rw [Go.Deep.map_by_index m default,Go.Deep.map_by_index l default,c.len]
    have e1:(List.range P.length).map (fun p=>(m.getD p default).code.length)=P.map fun k=>(l.getD k default).code.length:=by
     rw [Go.Deep.map_by_index P 0]
     exact List.map_congr_left fun p hp=>by rw [(c.like p (List.mem_range.1 hp)).code]
    rw [e1]
    have key:∀ (Q R:List Nat) (g:Nat → Nat),Q.Nodup → (∀ k ∈ Q,k ∈ R) → (Q.map g).sum ≤ (R.map g).sum:=by
     intro Q
     induction Q with
     | nil=>intro R g _ _; simp
     | cons a Q ih =>
      intro R g hn hs
      have ha:=hs a (List.mem_cons_self ..)
      have h5:=ih (R.erase a) g (List.nodup_cons.1 hn).2 (fun k hk=>by
       have hne:k ≠ a:=fun e=>(List.nodup_cons.1 hn).1 (e ▸ hk)
       exact (List.mem_erase_of_ne hne).2 (hs k (List.mem_cons_of_mem _ hk)))
      have h6:(R.map g).sum=g a + ((R.erase a).map g).sum:=by
       have:=(List.perm_cons_erase ha).map g
       rw [this.sum_nat]
       simp
      rw [h6]
      simp
      exact h5
    exact key P _ _ c.nd fun k hk=>List.mem_range.2 ((c.all k).1 hk).1
   omega
  ·obtain ⟨p,hp,rfl⟩:=List.getElem_of_mem hf
   have hp2:p < P.length:=by rw [← c.len]; exact hp
   have:=(c.like p hp2).places
   rw [List.getD,List.getElem?_eq_getElem hp,Option.getD_some] at this
   rw [this] at e
   have:=h3 _ (getD_mem (c.at_ hp2).1)
   omega
 ·intro p hp
  have hp2:p < P.length:=by rw [← c.len]; exact hp
  obtain ⟨hk,hN⟩:=c.at_ hp2
  obtain ⟨h5,h6⟩:=h4 _ hk
  obtain ⟨q1,q2,q3,q4,q5⟩:=c.like p hp2
  refine ⟨?_,by rw [q1]; exact c.index hv h6 hp2 rfl⟩
  have hps:=fcS_parts h5
  unfold fcS at h5 ⊢
  simp only [Bool.and_eq_true] at h5 ⊢
  rw [q1,q2,q3,q4,q5]
  refine ⟨h5.1,h5.2.1,h5.2.2.1,h5.2.2.2.1,?_⟩
  rw [List.all_eq_true]
  intro x hx
  have hi:=hps.2.2.2 x hx
  by_cases h16:x.op=16
  ·rcases index_spec l x.name with ⟨e1,_⟩ | ⟨j,e1,hj,_,_⟩
   ·exfalso
    obtain ⟨op,a,b,ty,nm⟩:=x
    simp only [] at h16 e1
    subst h16
    unfold instS shapeS at hi
    simp [e1] at hi
   ·have hNj:=cl _ j hk hN ⟨x,hx,h16,e1⟩
    obtain ⟨r,hr,er⟩:=c.pos hj hNj
    have e2:=c.index hv e1 hr er
    obtain ⟨op,a,b,ty,nm⟩:=x
    simp only [] at h16 e1 e2
    subst h16
    unfold instS shapeS at hi ⊢
    have e3:(m.getD r default).params=(l.getD j default).params:=by rw [(c.like r hr).params,er]
    simp only [e1,e2,Int.toNat_natCast] at hi ⊢
    rw [e3]
    simpa using hi
  ·have e:shapeS m (m.getD p default) x=shapeS l (l.getD (P.getD p 0) default) x:=by
    unfold shapeS
    rw [q3,q5]
    simp only [h16,if_false]
   unfold instS at hi ⊢
   rw [e]; exact hi
theorem CutOf.check {l:List Fc} {N:Nat → Prop} {m:List Fc} {P:List Nat} (c:CutOf l N m P) (hc:(checkE l).2.2=0) (cl:∀ i j,i < l.length → N i → CallsTo l i j → N j):checkE m=(0,0,0):=by
 obtain ⟨h1,h2⟩:=check_ok hc
 refine check_good (c.valid h1 cl) fun p hp=>?_
 have hp2:p < P.length:=by rw [← c.len]; exact hp
 rw [(c.like p hp2).code]
 exact h2 _ (c.at_ hp2).1
open Classical in
noncomputable def idx (N:Nat → Prop) (n:Nat):List Nat:=(List.range n).filter fun k=>decide (N k)
open Classical in
theorem mem_idx {N:Nat → Prop} {n k:Nat}:k ∈ idx N n ↔ k < n∧N k:=by
 unfold idx
 rw [List.mem_filter,List.mem_range,decide_eq_true_eq]
theorem idx_inc (N:Nat → Prop) (n:Nat):(idx N n).Pairwise (· < ·):=by
 unfold idx
 exact List.Pairwise.filter _ List.pairwise_lt_range
theorem idx_nodup (N:Nat → Prop) (n:Nat):(idx N n).Nodup:=(idx_inc N n).imp fun h=>Nat.ne_of_lt h
open Classical in
theorem idx_in {N:Nat → Prop} {n:Nat} (h:N n):idx N (n + 1)=idx N n ++ [n]:=by
 unfold idx
 rw [List.range_succ,List.filter_append,List.filter_cons_of_pos (by simpa using h)]
 rfl
open Classical in
theorem idx_out {N:Nat → Prop} {n:Nat} (h:¬ N n):idx N (n + 1)=idx N n:=by
 unfold idx
 rw [List.range_succ,List.filter_append,List.filter_cons_of_neg (by simpa using h)]
 simp
open Classical in
theorem idx_same {N M:Nat → Prop} {n:Nat} (h:∀ k,k < n → (N k ↔ M k)):idx N n=idx M n:=by
 unfold idx
 refine List.filter_congr fun k hk=>?_
 rw [decide_eq_decide]
 exact h k (List.mem_range.1 hk)
def CutL (l:List Fc) (N:Nat → Prop) (m:List Fc):Prop:=m.length=(idx N l.length).length∧∀ p,p < m.length → Like (l.getD ((idx N l.length).getD p 0) default) (m.getD p default)
theorem CutL.of {l:List Fc} {N:Nat → Prop} {m:List Fc} (c:CutL l N m):CutOf l N m (idx N l.length) :=
 ⟨idx_nodup _ _,fun _=>mem_idx,idx_inc _ _,c.1,fun p hp=>c.2 p (by rw [c.1]; exact hp)⟩
def Roots (l:List Fc) (rs:List ByteArray) (i:Nat):Prop:=∃ r,r ∈ rs∧indexS l r=i
theorem call_in {l:List Fc} {i j:Nat} (h:CallsTo l i j):j < l.length:=by
 obtain ⟨x,_,_,e⟩:=h
 rcases index_spec l x.name with ⟨e1,_⟩ | ⟨k,e1,hk,_⟩
 ·omega
 ·omega
theorem need_in {l:List Fc} {rs:List ByteArray} {i:Nat} (h:Need l (Roots l rs) i):i < l.length:=by
 cases h with
 | root h =>
  obtain ⟨r,_,e⟩:=h
  rcases index_spec l r with ⟨e1,_⟩ | ⟨k,e1,hk,_⟩
  ·omega
  ·omega
 | call _ h=>exact call_in h
structure VisOk (l:List Fc) (N:Nat → Bool) (k:Nat) (M:Nat → Bool):Prop where
 sub:∀ i,N i=true → M i=true
 self:M k=true
 closed:∀ i j,M i=true → N i=false → CallsTo l i j → M j=true
 need:∀ i,M i=true → N i=true ∨ Need l (fun x=>x=k) i
structure VisTo (l:List Fc) (N:Nat → Bool) (k q:Nat) (M:Nat → Bool):Prop where
 sub:∀ i,N i=true → M i=true
 self:M k=true
 closed:∀ i j,M i=true → N i=false → i ≠ k → CallsTo l i j → M j=true
 need:∀ i,M i=true → N i=true ∨ Need l (fun x=>x=k) i
 done:∀ p j,p < q → p < (l.getD k default).code.length → ((l.getD k default).code.getD p default).op=16 → indexS l ((l.getD k default).code.getD p default).name=(j:Nat) → M j=true
def setN (N:Nat → Bool) (k:Nat):Nat → Bool:=fun i=>if i=k then true else N i
theorem need_trans {l:List Fc} {R:Nat → Prop} {j i:Nat} (h:Need l (fun x=>x=j) i) (hj:Need l R j):Need l R i:=by
 induction h with
 | root e=>rw [e]; exact hj
 | call _ hc ih=>exact .call ih hc
section
variable {l:List Fc} {N M M':Nat → Bool} {k q:Nat}
theorem VisOk.again (h:N k=true):VisOk l N k N:=⟨fun _ h=>h,h,fun i j h1 h2=>(by rw [h1] at h2; cases h2),fun i h=>.inl h⟩
theorem VisTo.start:VisTo l N k 0 (setN N k):=by
 refine ⟨fun i h=>?_,?_,fun i j h1 h2 hne hc=>?_,fun i h=>?_,fun p j hp=>by omega⟩
 ·unfold setN; split
  ·rfl
  ·exact h
 ·unfold setN; rw [if_pos rfl]
 ·unfold setN at h1; rw [if_neg hne,h2] at h1; cases h1
 ·unfold setN at h
  by_cases e:i=k
  ·exact .inr (.root e)
  ·rw [if_neg e] at h; exact .inl h
theorem VisTo.sub2 (v:VisTo l N k q M):∀ i,setN N k i=true → M i=true:=by
 intro i h
 unfold setN at h
 by_cases e:i=k
 ·rw [e]; exact v.self
 ·rw [if_neg e] at h; exact v.sub i h
theorem VisTo.pass (v:VisTo l N k q M) (h:q < (l.getD k default).code.length → ((l.getD k default).code.getD q default).op ≠ 16):VisTo l N k (q + 1) M :=
 ⟨v.sub,v.self,v.closed,v.need,fun p j hp hl h16 e=>by
  rcases Nat.lt_or_ge p q with h1 | h1
  ·exact v.done p j h1 hl h16 e
  ·obtain rfl:p=q:=by omega
   exact absurd h16 (h hl)⟩
theorem VisTo.step (v:VisTo l N k q M) {j:Nat} (hq:q < (l.getD k default).code.length) (h16:((l.getD k default).code.getD q default).op=16) (hj:indexS l ((l.getD k default).code.getD q default).name=j) (o:VisOk l M j M'):VisTo l N k (q + 1) M':=by
 have hc:CallsTo l k j:=⟨_,getD_mem hq,h16,hj⟩
 refine ⟨fun i h=>o.sub i (v.sub i h),o.sub _ v.self,fun i j2 h1 h2 hne h3=>?_,fun i h=>?_,fun p j2 hp hl h e=>?_⟩
 ·cases h4:M i
  ·exact o.closed i j2 h1 h4 h3
  ·exact o.sub _ (v.closed i j2 h4 h2 hne h3)
 ·rcases o.need i h with h4 | h4
  ·exact v.need i h4
  ·exact .inr (need_trans h4 (.call (.root rfl) hc))
 ·rcases Nat.lt_or_ge p q with h1 | h1
  ·exact o.sub _ (v.done p j2 h1 hl h e)
  ·obtain rfl:p=q:=by omega
   have:j2=j:=by omega
   rw [this]; exact o.self
theorem VisTo.end_ (v:VisTo l N k q M) (hq:(l.getD k default).code.length ≤ q):VisOk l N k M:=by
 refine ⟨v.sub,v.self,fun i j h1 h2 h3=>?_,v.need⟩
 by_cases e:i=k
 ·subst e
  obtain ⟨x,hx,h16,ex⟩:=h3
  obtain ⟨p,hp,rfl⟩:=List.getElem_of_mem hx
  have e2:(l.getD i default).code.getD p default=(l.getD i default).code[p]:=by
   rw [List.getD,List.getElem?_eq_getElem hp]; rfl
  exact v.done p j (by omega) hp (by rw [e2]; exact h16) (by rw [e2]; exact ex)
 ·exact v.closed i j h1 h2 e h3
end
def cnt (N:Nat → Bool) (n:Nat):Nat:=((List.range n).filter fun i=>!N i).length
theorem cnt_le {N M:Nat → Bool} (n:Nat) (h:∀ i,N i=true → M i=true):cnt M n ≤ cnt N n:=by
 unfold cnt
 induction n with
 | zero=>exact Nat.le_refl _
 | succ n ih =>
  rw [List.range_succ,List.filter_append,List.filter_append,List.length_append,List.length_append]
  have:([n].filter fun i=>!M i).length ≤ ([n].filter fun i=>!N i).length:=by
   cases h1:N n
   ·cases h2:M n <;> simp [h1,h2]
   ·simp [h1,h n h1]
  omega
theorem cnt_lt {N:Nat → Bool} {n k:Nat} (hk:k < n) (h:N k=false):cnt (setN N k) n < cnt N n:=by
 have hsub:∀ i,N i=true → setN N k i=true:=fun i hi=>by
  unfold setN; split
  ·rfl
  ·exact hi
 unfold cnt
 induction n with
 | zero=>omega
 | succ n ih =>
  rw [List.range_succ,List.filter_append,List.filter_append,List.length_append,List.length_append]
  by_cases e:k=n
  ·subst e
   have h1:=cnt_le (N:=N) (M:=setN N k) k hsub
   unfold cnt at h1
   have h2:([k].filter fun i=>!setN N k i).length=0:=by simp [setN]
   have h3:([k].filter fun i=>!N i).length=1:=by simp [h]
   omega
  ·have h1:=ih (by omega)
   have h2:([n].filter fun i=>!setN N k i).length=([n].filter fun i=>!N i).length:=by
    have:setN N k n=N n:=by unfold setN; rw [if_neg (fun e2=>e e2.symm)]
    rw [List.filter_cons,List.filter_cons]
    simp only [this,List.filter_nil]
   omega
noncomputable def cutE (l:List Fc) (rs:List ByteArray):Int:=if (checkE l).2.2=0 then (bif rs.any (fun r=>decide (indexS l r < 0)) then 4 else 0) else (checkE l).2.2
section
variable {l:List Fc} {rs:List ByteArray} {q k:Nat} {M M':Nat → Bool}
theorem name_mem {q:Nat} (hq:q < rs.length):rs.getD q ⟨#[]⟩ ∈ rs:=by
 rw [List.getD,List.getElem?_eq_getElem hq]
 exact List.getElem_mem hq
theorem cutE_bad (h:(checkE l).2.2 ≠ 0):cutE l rs=(checkE l).2.2:=by unfold cutE; rw [if_neg h]
theorem cutE_none (h0:(checkE l).2.2=0) (hq:q < rs.length) (h:indexS l (rs.getD q ⟨#[]⟩) < 0):cutE l rs=4:=by
 unfold cutE
 rw [if_pos h0]
 have e:rs.any (fun r=>decide (indexS l r < 0))=true:=List.any_eq_true.2 ⟨_,name_mem hq,by simpa using h⟩
 rw [e]; rfl
theorem cutE_ok (h0:(checkE l).2.2=0) (h:∀ p,p < rs.length → ∃ k:Nat,indexS l (rs.getD p ⟨#[]⟩)=k):cutE l rs=0∧∀ r,r ∈ rs → 0 ≤ indexS l r:=by
 have h2:∀ r,r ∈ rs → 0 ≤ indexS l r:=fun r hr=>by
  obtain ⟨p,hp,rfl⟩:=List.getElem_of_mem hr
  obtain ⟨k,e⟩:=h p hp
  rw [List.getD,List.getElem?_eq_getElem hp,Option.getD_some] at e
  omega
 refine ⟨?_,h2⟩
 unfold cutE
 rw [if_pos h0]
 have e:rs.any (fun r=>decide (indexS l r < 0))=false:=by
  rw [List.any_eq_false]
  intro r hr
  have:=h2 r hr
  simp only [decide_eq_true_eq]
  omega
 rw [e]; rfl
structure Marks (l:List Fc) (rs:List ByteArray) (q:Nat) (M:Nat → Bool):Prop where
 closed:∀ i j,M i=true → CallsTo l i j → M j=true
 need:∀ i,M i=true → Need l (Roots l rs) i
 done:∀ p,p < q → ∃ k:Nat,indexS l (rs.getD p ⟨#[]⟩)=k∧M k=true
theorem Marks.start:Marks l rs 0 (fun _=>false):=⟨fun _ _ h=>(by cases h),fun _ h=>(by cases h),fun p hp=>by omega⟩
theorem Marks.step (m:Marks l rs q M) (hq:q < rs.length) (hk:indexS l (rs.getD q ⟨#[]⟩)=k) (o:VisOk l M k M'):Marks l rs (q + 1) M':=by
 refine ⟨fun i j h1 h2=>?_,fun i h=>?_,fun p hp=>?_⟩
 ·cases h4:M i
  ·exact o.closed i j h1 h4 h2
  ·exact o.sub _ (m.closed i j h4 h2)
 ·rcases o.need i h with h4 | h4
  ·exact m.need i h4
  ·exact need_trans h4 (.root ⟨_,name_mem hq,hk⟩)
 ·rcases Nat.lt_or_ge p q with h1 | h1
  ·obtain ⟨k2,e,h2⟩:=m.done p h1
   exact ⟨k2,e,o.sub _ h2⟩
  ·obtain rfl:p=q:=by omega
   exact ⟨k,hk,o.self⟩
theorem Marks.end_ (m:Marks l rs q M) (hq:rs.length ≤ q) (i:Nat):M i=true ↔ Need l (Roots l rs) i:=by
 refine ⟨m.need i,fun h=>?_⟩
 induction h with
 | root h =>
  obtain ⟨r,hr,e⟩:=h
  obtain ⟨p,hp,rfl⟩:=List.getElem_of_mem hr
  obtain ⟨k,ek,hk⟩:=m.done p (by omega)
  rw [List.getD,List.getElem?_eq_getElem hp,Option.getD_some] at ek
  have e2:=e.symm.trans ek
  rw [show _=k from Int.ofNat.inj e2]
  exact hk
 | call _ hc ih=>exact m.closed _ _ ih hc
def CutTo (l:List Fc) (N:Nat → Prop) (n:Nat) (m:List Fc):Prop:=m.length=(idx N n).length∧∀ p,p < m.length → Like (l.getD ((idx N n).getD p 0) default) (m.getD p default)
theorem idx_len (N:Nat → Prop) (n:Nat):(idx N n).length ≤ n:=by
 unfold idx
 exact Nat.le_trans (List.length_filter_le _ _) (by rw [List.length_range]; exact Nat.le_refl _)
theorem CutTo.start (l:List Fc) (N:Nat → Prop):CutTo l N 0 []:=⟨rfl,fun p hp=>by cases hp⟩
theorem CutTo.in_ {N:Nat → Prop} {n:Nat} {m:List Fc} {f:Fc} (h:CutTo l N n m) (hn:N n) (hf:Like (l.getD n default) f):CutTo l N (n + 1) (m ++ [f]):=by
 unfold CutTo
 rw [idx_in hn]
 refine ⟨by rw [List.length_append,List.length_append,h.1]; rfl,fun p hp=>?_⟩
 rcases Nat.lt_or_ge p m.length with h1 | h1
 ·have h2:=h.2 p h1
  simp only [List.getD]
  rw [List.getElem?_append_left (by rw [← h.1]; exact h1),List.getElem?_append_left h1]
  exact h2
 ·have e:p=m.length:=by rw [List.length_append] at hp; simp at hp; omega
  subst e
  have e2:(idx N n ++ [n]).getD m.length 0=n:=by
   simp only [List.getD]
   rw [h.1,List.getElem?_append_right (Nat.le_refl _),Nat.sub_self]; rfl
  have e3:(m ++ [f]).getD m.length default=f:=by
   simp only [List.getD]
   rw [List.getElem?_append_right (Nat.le_refl _),Nat.sub_self]; rfl
  rw [e2,e3]
  exact hf
theorem CutTo.out {N:Nat → Prop} {n:Nat} {m:List Fc} (h:CutTo l N n m) (hn:¬ N n):CutTo l N (n + 1) m:=by
 unfold CutTo
 rw [idx_out hn]
 exact h
theorem CutTo.all {N N':Nat → Prop} {m:List Fc} (h:CutTo l N l.length m) (hs:∀ i,N i ↔ N' i):CutL l N' m:=by
 unfold CutTo at h
 rw [idx_same (fun k _=>hs k)] at h
 exact h
end
structure BInv (l:List Fc) (rs:List ByteArray) (M:Nat → Bool) (T:List Nat):Prop where
 closed:∀ i j,M i=true → CallsTo l i j → M j=true ∨ j ∈ T
 need:∀ i,M i=true → Need l (Roots l rs) i
 needT:∀ i,i ∈ T → Need l (Roots l rs) i
 done:∀ p,p < rs.length → ∃ k:Nat,indexS l (rs.getD p ⟨#[]⟩)=k∧(M k=true ∨ k ∈ T)
def callsL (l:List Fc) (c:List Cd):List Nat:=(c.filter fun x=>x.op == 16).map fun x=>(indexS l x.name).toNat
theorem callsL_len (l:List Fc) (c:List Cd):(callsL l c).length ≤ c.length:=by
 unfold callsL
 rw [List.length_map]
 exact List.length_filter_le _ _
def rest (l:List Fc) (M:Nat → Bool):Nat:=((List.range l.length).map fun i=>bif M i then 0 else (l.getD i default).code.length).sum
theorem rest_set (l:List Fc) (M:Nat → Bool) {k:Nat} (hk:k < l.length) (h:M k=false):rest l (setN M k) + (l.getD k default).code.length=rest l M:=by
 unfold rest
 have key:∀ n,n ≤ l.length → ((List.range n).map fun i=>bif setN M k i then 0 else (l.getD i default).code.length).sum + (if k < n then (l.getD k default).code.length else 0)=((List.range n).map fun i=>bif M i then 0 else (l.getD i default).code.length).sum:=by
  intro n
  induction n with
  | zero=>intro _; simp
  | succ n ih =>
   intro hn
   have h1:=ih (by omega)
   rw [List.range_succ,List.map_append,List.map_append,List.sum_append,List.sum_append]
   simp only [List.map_cons,List.map_nil,List.sum_cons,List.sum_nil]
   by_cases e:n=k
   ·subst e
    rw [if_neg (Nat.lt_irrefl n)] at h1
    rw [if_pos (Nat.lt_succ_self n)]
    have e1:setN M n n=true:=by unfold setN; rw [if_pos rfl]
    rw [e1,h]
    simp only [cond_true,cond_false]
    omega
   ·have e1:setN M k n=M n:=by unfold setN; rw [if_neg e]
    rw [e1]
    by_cases hkn:k < n
    ·rw [if_pos hkn] at h1
     rw [if_pos (by omega)]
     omega
    ·rw [if_neg hkn] at h1
     rw [if_neg (by omega)]
     omega
 have:=key l.length (Nat.le_refl _)
 rw [if_pos hk] at this
 exact this
def bMs (l:List Fc) (M:Nat → Bool) (T:List Nat):Nat:=T.length + rest l M
section
variable {l:List Fc} {rs:List ByteArray} {M:Nat → Bool} {T:List Nat} {k:Nat}
theorem BInv.start (h:∀ p,p < rs.length → ∃ k:Nat,indexS l (rs.getD p ⟨#[]⟩)=k):BInv l rs (fun _=>false) (rs.map fun r=>(indexS l r).toNat):=by
 refine ⟨fun i j h=>(by cases h),fun i h=>(by cases h),fun i hi=>?_,fun p hp=>?_⟩
 ·obtain ⟨r,hr,rfl⟩:=List.mem_map.1 hi
  obtain ⟨p,hp,rfl⟩:=List.getElem_of_mem hr
  obtain ⟨k,e⟩:=h p hp
  rw [List.getD,List.getElem?_eq_getElem hp,Option.getD_some] at e
  exact .root ⟨_,hr,by omega⟩
 ·obtain ⟨k,e⟩:=h p hp
  refine ⟨k,e,.inr (List.mem_map.2 ⟨_,name_mem hp,?_⟩)⟩
  rw [e]; rfl
theorem BInv.skip (v:BInv l rs M (k :: T)) (h:M k=true):BInv l rs M T:=by
 have mv:∀ j,(M j=true ∨ j ∈ k :: T) → M j=true ∨ j ∈ T:=by
  rintro j (h1 | h1)
  ·exact .inl h1
  ·rcases List.mem_cons.1 h1 with rfl | h1
   ·exact .inl h
   ·exact .inr h1
 exact ⟨fun i j h1 h2=>mv j (v.closed i j h1 h2),v.need,fun i hi=>v.needT i (List.mem_cons_of_mem _ hi),fun p hp=>let ⟨k2,e,h2⟩:=v.done p hp; ⟨k2,e,mv k2 h2⟩⟩
theorem BInv.on (v:BInv l rs M (k :: T)) (hv:validS l=0):BInv l rs (setN M k) (T ++ callsL l (l.getD k default).code):=by
 have hk:=v.needT k (List.mem_cons_self ..)
 have sub:∀ i,M i=true → setN M k i=true:=fun i h=>by
  unfold setN; split
  ·rfl
  ·exact h
 have self:setN M k k=true:=by unfold setN; rw [if_pos rfl]
 have mv:∀ j,(M j=true ∨ j ∈ k :: T) → setN M k j=true ∨ j ∈ T ++ callsL l (l.getD k default).code:=by
  rintro j (h1 | h1)
  ·exact .inl (sub j h1)
  ·rcases List.mem_cons.1 h1 with rfl | h1
   ·exact .inl self
   ·exact .inr (List.mem_append_left _ h1)
 have old:∀ i,setN M k i=true → i ≠ k → M i=true:=fun i h hne=>by unfold setN at h; rwa [if_neg hne] at h
 refine ⟨fun i j h1 h2=>?_,fun i h=>?_,fun i hi=>?_,fun p hp=>let ⟨k2,e,h2⟩:=v.done p hp; ⟨k2,e,mv k2 h2⟩⟩
 ·by_cases e:i=k
  ·subst e
   obtain ⟨x,hx,h16,ex⟩:=h2
   exact .inr (List.mem_append_right _ (List.mem_map.2 ⟨x,List.mem_filter.2 ⟨hx,by simpa using h16⟩,by rw [ex]; rfl⟩))
  ·exact mv j (v.closed i j (old i h1 e) h2)
 ·by_cases e:i=k
  ·rw [e]; exact hk
  ·exact v.need i (old i h e)
 ·rcases List.mem_append.1 hi with hi | hi
  ·exact v.needT i (List.mem_cons_of_mem _ hi)
  ·obtain ⟨x,hx,rfl⟩:=List.mem_map.1 hi
   obtain ⟨hx1,hx2⟩:=List.mem_filter.1 hx
   have h16:x.op=16:=by simpa using hx2
   have hin:0 ≤ indexS l x.name:=by
    rcases index_spec l x.name with ⟨e1,_⟩ | ⟨j,e1,_⟩
    ·exfalso
     have hi:=(fcS_parts ((valid_parts hv).2.2.2 k (need_in hk)).1).2.2.2 x hx1
     obtain ⟨op,a,b,ty,nm⟩:=x
     simp only [] at h16 e1
     subst h16
     unfold instS shapeS at hi
     simp [e1] at hi
    ·omega
   exact .call hk ⟨x,hx1,h16,by omega⟩
theorem BInv.ms (v:BInv l rs M (k :: T)) (h:M k=false):bMs l (setN M k) (T ++ callsL l (l.getD k default).code) < bMs l M (k :: T):=by
 have h1:=rest_set l M (need_in (v.needT k (List.mem_cons_self ..))) h
 have h2:=callsL_len l (l.getD k default).code
 unfold bMs
 simp only [List.length_append,List.length_cons]
 omega
theorem BInv.end_ (v:BInv l rs M []) (i:Nat):M i=true ↔ Need l (Roots l rs) i:=by
 refine Marks.end_ (q:=rs.length) ⟨fun i j h1 h2=>?_,v.need,fun p hp=>?_⟩ (Nat.le_refl _) i
 ·rcases v.closed i j h1 h2 with h | h
  ·exact h
  ·cases h
 ·obtain ⟨k,e,h | h⟩:=v.done p hp
  ·exact ⟨k,e,h⟩
  ·cases h
end
end Go.Proofs.YtcoookehfhhhdaaGreatDoor.c
