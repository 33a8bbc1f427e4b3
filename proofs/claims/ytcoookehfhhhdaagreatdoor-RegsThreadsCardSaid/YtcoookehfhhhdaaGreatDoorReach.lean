/- Which points of code are reached, told plainly; what keeps true while code is gone through. No program in sight. Right code is good for being gone through. No program in sight. How the reference goes through code, told plainly: what keeps true, and what it comes to. No program in sight. -/
import Derived.Test.YtcoookehfhhhdaaGreatDoorQue
import Derived.Test.YtcoookehfhhhdaaGreatDoorRval
namespace Go.Proofs.YtcoookehfhhhdaaGreatDoor.c
set_option linter.unusedVariables false
set_option linter.unusedSimpArgs false

def xAt (c:List Cd) (p:Int × Int):Cd:=c.getD p.1.toNat default
def okH (x:Cd) (h:Int):Bool:=!(decide (h < takesS x) || decide (64 < h))
def behS (x:Cd) (h:Int):Int:=h - takesS x + putsS x
def leadH (x:Cd) (h:Int):Int:=bif x.op == 12 then behS x h - 1 else behS x h
inductive Reach (c:List Cd):Int × Int → Prop
 | start:Reach c (0,0)
 | lead {p:Int × Int}:Reach c p → okH (xAt c p) p.2=true → leadsS (xAt c p).op=true → Reach c ((xAt c p).a,leadH (xAt c p) p.2)
 | next {p:Int × Int}:Reach c p → okH (xAt c p) p.2=true → goesS (xAt c p)=true → p.1 + 1 ≠ c.length → Reach c (p.1 + 1,behS (xAt c p) p.2)
structure Sane (c:List Cd):Prop where
 pos:1 ≤ c.length
 few:c.length ≤ 2000
 each:∀ x ∈ c,0 ≤ takesS x∧takesS x ≤ 200∧(leadsS x.op=true → 0 ≤ x.a∧x.a < c.length)
def inPt (c:List Cd) (p:Int × Int):Prop:=0 ≤ p.1∧p.1 < c.length∧0 ≤ p.2∧p.2 ≤ 65
theorem xAt_mem {c:List Cd} {p:Int × Int} (h:inPt c p):xAt c p ∈ c:=getD_mem (by have:=h.1; have:=h.2.1; omega)
theorem puts_le (x:Cd):0 ≤ putsS x∧putsS x ≤ 1:=by
 have h:∀ (b:Bool) (u v:Int),(0 ≤ u∧u ≤ 1) → (0 ≤ v∧v ≤ 1) → 0 ≤ (bif b then u else v)∧(bif b then u else v) ≤ 1:=by
  intro b u v hu hv
  cases b
  ·exact hv
  ·exact hu
 unfold putsS
 exact h _ _ _ (by decide) (h _ _ _ (by decide) (h _ _ _ (by decide) (h _ _ _ (by decide) (h _ _ _ (by decide) (by decide)))))
theorem okH_le {x:Cd} {h:Int} (e:okH x h=true):takesS x ≤ h∧h ≤ 64:=by
 unfold okH at e
 simp at e
 omega
theorem lead12 {x:Cd} (e:(x.op == 12)=true):takesS x=1∧putsS x=1:=by
 have h:=eq_of_beq e
 unfold takesS putsS
 rw [h]
 exact ⟨rfl,rfl⟩
theorem leadH_le {x:Cd} {h:Int} (e:okH x h=true) (ht:0 ≤ takesS x):0 ≤ leadH x h∧leadH x h ≤ 65:=by
 have h1:=okH_le e
 have h2:=puts_le x
 unfold leadH behS
 cases h3:x.op == 12
 ·simp only [cond_false]; omega
 ·have:=lead12 h3
  simp only [cond_true]; omega
theorem Reach.inb {c:List Cd} (s:Sane c) {p:Int × Int} (h:Reach c p):inPt c p:=by
 induction h with
 | start=>exact ⟨by decide,by have:=s.pos; show (0:Int) < c.length; omega,by decide,by decide⟩
 | lead _ ok ld ih =>
  have:=s.each _ (xAt_mem ih)
  have h2:=this.2.2 ld
  have h3:=leadH_le ok this.1
  exact ⟨h2.1,h2.2,h3.1,h3.2⟩
 | @next p _ ok go ne ih =>
  have h1:=s.each _ (xAt_mem ih)
  have h2:=okH_le ok
  have h3:=puts_le (xAt c p)
  obtain ⟨i1,i2,i3,i4⟩:=ih
  refine ⟨?_,?_,?_,?_⟩ <;> simp only [behS] <;> omega
theorem nodup_len:∀ (M:Nat) (l:List Nat),l.Nodup → (∀ x ∈ l,x < M) → l.length ≤ M
 | 0,l,_,h=>by
  cases l with
  | nil=>exact Nat.le_refl _
  | cons a l=>have:=h a (by simp); omega
 | M + 1,l,nd,h=>by
  have h1:=nodup_len M (l.erase M) (nd.erase M) (fun x hx=>by
   have h2:=(List.Nodup.mem_erase_iff nd).1 hx
   have:=h x h2.2
   omega)
  have:=List.length_erase_of_mem (a:=M) (l:=l)
  by_cases hm:M ∈ l
  ·rw [List.length_erase_of_mem hm] at h1; omega
  ·rw [List.erase_of_not_mem hm] at h1; omega
theorem pts_len {c:List Cd} {S:List (Int × Int)} (nd:S.Nodup) (h:∀ p ∈ S,inPt c p):S.length ≤ 66 * c.length:=by
 have h1:=nodup_len (66 * c.length) (S.map fun p=>p.1.toNat * 66 + p.2.toNat) ?_ ?_
 ·simpa using h1
 ·unfold List.Nodup
  rw [List.pairwise_map]
  refine nd.imp_of_mem ?_
  intro p q hp hq hne e
  obtain ⟨a1,a2,a3,a4⟩:=h p hp
  obtain ⟨b1,b2,b3,b4⟩:=h q hq
  exact hne (Prod.ext (by omega) (by omega))
 ·intro x hx
  obtain ⟨p,hp,rfl⟩:=List.mem_map.1 hx
  obtain ⟨a1,a2,a3,a4⟩:=h p hp
  have:p.1.toNat + 1 ≤ c.length:=by omega
  have:=Nat.mul_le_mul_right 66 this
  omega
def Least (B:Int → Prop) (w:Int):Prop:=(w < 0 → w=-1∧∀ i,¬ B i)∧(0 ≤ w → B w∧∀ i,B i → w ≤ i)
theorem Least.one {B:Int → Prop} {u w:Int} (h:Least B u) (k:Least B w):u=w:=by
 rcases (by omega:u < 0 ∨ 0 ≤ u) with hu | hu <;> rcases (by omega:w < 0 ∨ 0 ≤ w) with hw | hw
 ·rw [(h.1 hu).1,(k.1 hw).1]
 ·exact absurd (k.2 hw).1 ((h.1 hu).2 w)
 ·exact absurd (h.2 hu).1 ((k.1 hw).2 u)
 ·have h1:=(h.2 hu).2 w (k.2 hw).1
  have h2:=(k.2 hw).2 u (h.2 hu).1
  omega
theorem Least.iff {B C:Int → Prop} {w:Int} (h:Least B w) (e:∀ i,B i ↔ C i):Least C w :=
 ⟨fun hw=>⟨(h.1 hw).1,fun i hi=>(h.1 hw).2 i ((e i).2 hi)⟩,fun hw=>⟨(e w).1 (h.2 hw).1,fun i hi=>(h.2 hw).2 i ((e i).2 hi)⟩⟩
theorem Least.min {B:Int → Prop} {w a:Int} (h:Least B w) (ha:0 ≤ a):Least (fun i=>B i ∨ i=a) (minS w a):=by
 have e:minS w a=if w < 0 ∨ a < w then a else w:=by
  unfold minS
  by_cases h1:w < 0 <;> by_cases h2:a < w <;> simp [h1,h2]
 rw [e]
 by_cases hc:w < 0 ∨ a < w
 ·rw [if_pos hc]
  refine ⟨fun h0=>by omega,fun _=>⟨.inr rfl,fun i hi=>?_⟩⟩
  rcases hi with hi | rfl
  ·rcases (by omega:w < 0 ∨ 0 ≤ w) with hw | hw
   ·exact absurd hi ((h.1 hw).2 i)
   ·have:=(h.2 hw).2 i hi; omega
  ·exact Int.le_refl _
 ·rw [if_neg hc]
  refine ⟨fun h0=>by omega,fun hw=>⟨.inl (h.2 hw).1,fun i hi=>?_⟩⟩
  rcases hi with hi | rfl
  ·exact (h.2 hw).2 i hi
  ·omega
def bad1 (c:List Cd) (p:Int × Int):Prop:=okH (xAt c p) p.2=false ∨ (goesS (xAt c p)=true∧p.1 + 1=c.length)
def BadIn (c:List Cd) (D:Int × Int → Prop) (i:Int):Prop:=(∃ p,D p∧p.1=i∧bad1 c p) ∨ ∃ p q,D p∧D q∧p.1=i∧q.1=i∧p ≠ q
theorem mem_addS {S:List (Int × Int)} {p q:Int × Int}:q ∈ addS S p ↔ q ∈ S ∨ q=p:=by
 by_cases h:p ∈ S
 ·rw [addS_in h]
  constructor
  ·exact .inl
  ·rintro (h1 | rfl)
   ·exact h1
   ·exact h
 ·rw [addS_out h,List.mem_cons]
  constructor
  ·rintro (rfl | h1)
   ·exact .inr rfl
   ·exact .inl h1
  ·rintro (h1 | rfl)
   ·exact .inr h1
   ·exact .inl rfl
structure Grow (c:List Cd) (S T S' T':List (Int × Int)):Prop where
 sub:∀ q ∈ S,q ∈ S'
 nd:S'.Nodup
 ndT:T'.Nodup
 subT:∀ q ∈ T',q ∈ S'
 new:∀ q ∈ S',q ∈ S ∨ Reach c q
 done:∀ q,(q ∈ S'∧q ∉ T') ↔ (q ∈ S∧q ∉ T)
 len:T'.length + S.length=T.length + S'.length
 le:S.length ≤ S'.length
theorem Grow.refl {c:List Cd} {S T:List (Int × Int)} (h:S.Nodup) (ht:T.Nodup) (hs:∀ q ∈ T,q ∈ S):Grow c S T S T :=
 ⟨fun _ h=>h,h,ht,hs,fun _ h=>.inl h,fun _=>Iff.rfl,rfl,Nat.le_refl _⟩
theorem Grow.add {c:List Cd} {S T S' T':List (Int × Int)} (g:Grow c S T S' T') {p:Int × Int} (hp:Reach c p):Grow c S T (addS S' p) (addT S' T' p):=by
 by_cases h:p ∈ S'
 ·rw [addS_in h,addT_in h]; exact g
 ·rw [addS_out h,addT_out h]
  refine ⟨fun q hq=>List.mem_cons_of_mem _ (g.sub q hq),List.nodup_cons.2 ⟨h,g.nd⟩,?_,?_,?_,?_,?_,?_⟩
  ·rw [List.nodup_append]
   exact ⟨g.ndT,by simp,fun a ha b hb=>by rw [List.mem_singleton] at hb; subst hb; exact fun e=>h (e ▸ g.subT a ha)⟩
  ·intro q hq
   rcases List.mem_append.1 hq with hq | hq
   ·exact List.mem_cons_of_mem _ (g.subT q hq)
   ·rw [List.mem_singleton] at hq; subst hq; exact List.mem_cons_self ..
  ·intro q hq
   rcases List.mem_cons.1 hq with rfl | hq
   ·exact .inr hp
   ·exact g.new q hq
  ·intro q
   rw [← g.done q]
   constructor
   ·rintro ⟨h1,h2⟩
    rw [List.mem_append,List.mem_singleton] at h2
    rcases List.mem_cons.1 h1 with rfl | h1
    ·exact absurd (.inr rfl) h2
    ·exact ⟨h1,fun h3=>h2 (.inl h3)⟩
   ·rintro ⟨h1,h2⟩
    refine ⟨List.mem_cons_of_mem _ h1,?_⟩
    rw [List.mem_append,List.mem_singleton]
    rintro (h3 | rfl)
    ·exact h2 h3
    ·exact h h1
  ·rw [List.length_append]; have:=g.len; simp; omega
  ·have:=g.le; simp; omega
structure LkInv (c:List Cd) (S T:List (Int × Int)) (H:Int → Option Int) (wr:Int):Prop where
 nd:S.Nodup
 ndT:T.Nodup
 subT:∀ q ∈ T,q ∈ S
 all:∀ q ∈ S,Reach c q
 zero:(0,0) ∈ S
 closed:∀ q ∈ S,q ∉ T → okH (xAt c q) q.2=true → (leadsS (xAt c q).op=true → ((xAt c q).a,leadH (xAt c q) q.2) ∈ S)∧(goesS (xAt c q)=true → q.1 + 1 ≠ c.length → (q.1 + 1,behS (xAt c q) q.2) ∈ S)
 hts:∀ q ∈ S,q ∉ T → ∃ h,H q.1=some h
 hts2:∀ i h,H i=some h → (i,h) ∈ S∧(i,h) ∉ T
 least:Least (BadIn c fun q=>q ∈ S∧q ∉ T) wr
def wr1S (H:Int → Option Int) (p:Int × Int) (wr:Int):Int:=bif (H p.1).isSome && ((H p.1).getD 0 != p.2) then minS wr p.1 else wr
theorem LkInv.round {c:List Cd} {S T S' T':List (Int × Int)} {H:Int → Option Int} {p:Int × Int} {wr wr':Int} (s:Sane c) (v:LkInv c S (p :: T) H wr) (g:Grow c S T S' T')
  (cl:okH (xAt c p) p.2=true → (leadsS (xAt c p).op=true → ((xAt c p).a,leadH (xAt c p) p.2) ∈ S')∧(goesS (xAt c p)=true → p.1 + 1 ≠ c.length → (p.1 + 1,behS (xAt c p) p.2) ∈ S'))
  (hw:(bad1 c p∧wr'=minS (wr1S H p wr) p.1) ∨ (¬ bad1 c p∧wr'=wr1S H p wr)):LkInv c S' T' (updH H p.1 p.2) wr':=by
 have hpS:p ∈ S:=v.subT p (List.mem_cons_self ..)
 have hpT:p ∉ T:=(List.nodup_cons.1 v.ndT).1
 have hin:=(v.all p hpS).inb s
 have old:∀ q,(q ∈ S'∧q ∉ T') ↔ ((q ∈ S∧q ∉ p :: T) ∨ q=p):=by
  intro q
  rw [g.done q]
  constructor
  ·rintro ⟨h1,h2⟩
   by_cases e:q=p
   ·exact .inr e
   ·exact .inl ⟨h1,fun h3=>by rcases List.mem_cons.1 h3 with h3 | h3; exact e h3; exact h2 h3⟩
  ·rintro (⟨h1,h2⟩ | rfl)
   ·exact ⟨h1,fun h3=>h2 (List.mem_cons_of_mem _ h3)⟩
   ·exact ⟨hpS,hpT⟩
 refine ⟨g.nd,g.ndT,g.subT,fun q hq=>(g.new q hq).elim (v.all q) id,g.sub _ v.zero,?_,?_,?_,?_⟩
 ·intro q h1 h2 ok
  rcases (old q).1 ⟨h1,h2⟩ with ⟨h3,h4⟩ | rfl
  ·have:=v.closed q h3 h4 ok
   exact ⟨fun h=>g.sub _ (this.1 h),fun h h'=>g.sub _ (this.2 h h')⟩
  ·exact cl ok
 ·intro q h1 h2
  unfold updH
  by_cases e:q.1=p.1
  ·exact ⟨p.2,if_pos e⟩
  ·rw [if_neg e]
   rcases (old q).1 ⟨h1,h2⟩ with ⟨h3,h4⟩ | rfl
   ·exact v.hts q h3 h4
   ·exact absurd rfl e
 ·intro i h hh
  unfold updH at hh
  by_cases e:i=p.1
  ·rw [if_pos e] at hh
   cases hh
   rw [e]
   exact (old p).2 (.inr rfl)
  ·rw [if_neg e] at hh
   exact (old _).2 (.inl (v.hts2 i h hh))
 ·-- wrong,with the conflicts of p
  have key:∀ i,BadIn c (fun q=>q ∈ S'∧q ∉ T') i ↔ ((BadIn c (fun q=>q ∈ S∧q ∉ p :: T) i ∨ (i=p.1∧∃ h,H p.1=some h∧h ≠ p.2)) ∨ (i=p.1∧bad1 c p)):=by
   intro i
   constructor
   ·rintro (⟨q,hq,rfl,hb⟩ | ⟨q,r,hq,hr,h1,h2,hne⟩)
    ·rcases (old q).1 hq with h | rfl
     ·exact .inl (.inl (.inl ⟨q,h,rfl,hb⟩))
     ·exact .inr ⟨rfl,hb⟩
    ·rcases (old q).1 hq with h3 | rfl <;> rcases (old r).1 hr with h4 | rfl
     ·exact .inl (.inl (.inr ⟨q,r,h3,h4,h1,h2,hne⟩))
     ·refine .inl ?_
      obtain ⟨h,hh⟩:=v.hts q h3.1 h3.2
      by_cases e:h=r.2
      ·exfalso
       have:=v.hts2 _ _ hh
       rw [e,h1,← h2] at this
       exact this.2 (List.mem_cons_self ..)
      ·exact .inr ⟨h2.symm,h,by rw [h2,← h1]; exact hh,e⟩
     ·refine .inl ?_
      obtain ⟨h,hh⟩:=v.hts r h4.1 h4.2
      by_cases e:h=q.2
      ·exfalso
       have:=v.hts2 _ _ hh
       rw [e,h2,← h1] at this
       exact this.2 (List.mem_cons_self ..)
      ·exact .inr ⟨h1.symm,h,by rw [h1,← h2]; exact hh,e⟩
     ·exact absurd rfl hne
   ·rintro ((h | ⟨rfl,h,hh,hne⟩) | ⟨rfl,hb⟩)
    ·rcases h with ⟨q,hq,h1,hb⟩ | ⟨q,r,hq,hr,h1,h2,hne⟩
     ·exact .inl ⟨q,(old q).2 (.inl hq),h1,hb⟩
     ·exact .inr ⟨q,r,(old q).2 (.inl hq),(old r).2 (.inl hr),h1,h2,hne⟩
    ·have:=v.hts2 _ _ hh
     exact .inr ⟨(p.1,h),p,(old _).2 (.inl this),(old p).2 (.inr rfl),rfl,rfl,fun e=>hne (by rw [← e])⟩
    ·exact .inl ⟨p,(old p).2 (.inr rfl),rfl,hb⟩
  have l1:Least (fun i=>BadIn c (fun q=>q ∈ S∧q ∉ p :: T) i ∨ (i=p.1∧∃ h,H p.1=some h∧h ≠ p.2)) (wr1S H p wr):=by
   unfold wr1S
   cases hh:H p.1 with
   | none =>
    refine v.least.iff fun i=>?_
    constructor
    ·exact .inl
    ·rintro (h | ⟨_,h,e,_⟩)
     ·exact h
     ·cases e
   | some h =>
    by_cases e:h=p.2
    ·simp only [Option.isSome_some,Option.getD_some,Bool.true_and,e,bne_self_eq_false,cond_false]
     refine v.least.iff fun i=>?_
     constructor
     ·exact .inl
     ·rintro (h1 | ⟨_,h1,e1,e2⟩)
      ·exact h1
      ·cases e1; exact absurd rfl e2
    ·have:(h != p.2)=true:=by simpa using e
     simp only [Option.isSome_some,Option.getD_some,Bool.true_and,this,cond_true]
     refine (v.least.min hin.1).iff fun i=>?_
     constructor
     ·rintro (h1 | h1)
      ·exact .inl h1
      ·exact .inr ⟨h1,h,rfl,e⟩
     ·rintro (h1 | ⟨h1,_⟩)
      ·exact .inl h1
      ·exact .inr h1
  rcases hw with ⟨hb,rfl⟩ | ⟨hb,rfl⟩
  ·refine (l1.min hin.1).iff fun i=>?_
   rw [key i]
   constructor
   ·rintro (h | h)
    ·exact .inl h
    ·exact .inr ⟨h,hb⟩
   ·rintro (h | ⟨h,_⟩)
    ·exact .inl h
    ·exact .inr h
  ·refine l1.iff fun i=>?_
   rw [key i]
   constructor
   ·exact .inl
   ·rintro (h | ⟨_,h⟩)
    ·exact h
    ·exact absurd h hb
theorem LkInv.start {c:List Cd}:LkInv c [(0,0)] [(0,0)] (fun _=>none) (-1):=by
 refine ⟨by simp,by simp,fun _ h=>h,?_,by simp,fun q h1 h2=>absurd h1 h2,fun q h1 h2=>absurd h1 h2,fun i h e=>(by cases e),?_⟩
 ·intro q hq
  rw [List.mem_singleton] at hq
  subst hq
  exact .start
 ·refine ⟨fun _=>⟨rfl,?_⟩,fun h=>by omega⟩
  rintro i (⟨p,hp,_⟩ | ⟨p,q,hp,_⟩) <;> exact hp.2 hp.1
theorem LkInv.end_ {c:List Cd} {S:List (Int × Int)} {H:Int → Option Int} {wr:Int} (v:LkInv c S [] H wr):(∀ q,q ∈ S ↔ Reach c q)∧Least (BadIn c (Reach c)) wr:=by
 have h:∀ q,q ∈ S ↔ Reach c q:=by
  intro q
  constructor
  ·exact v.all q
  ·intro h
   induction h with
   | start=>exact v.zero
   | lead _ ok ld ih=>exact (v.closed _ ih (by simp) ok).1 ld
   | next _ ok go ne ih=>exact (v.closed _ ih (by simp) ok).2 go ne
 refine ⟨h,v.least.iff fun i=>?_⟩
 have e:(fun q=>q ∈ S∧q ∉ ([]:List (Int × Int)))=Reach c:=by
  funext q
  rw [← h q]
  simp
 rw [e]

theorem valid_parts {l:List Fc} (h:validS l=0):l.length ≤ 48∧countS l ≤ 2000∧(∀ f ∈ l,f.places ≤ 200)∧∀ k,k < l.length → fcS l (l.getD k default)=true∧indexS l (l.getD k default).name=k:=by
 unfold validS at h
 by_cases h1:48 < l.length ∨ 2000 < countS l ∨ (∃ f ∈ l,200 < f.places)
 ·rw [if_pos h1] at h; cases h
 ·rw [if_neg h1] at h
  by_cases h2:∀ k,k < l.length → fcS l (l.getD k default)=true∧indexS l (l.getD k default).name=k
  ·refine ⟨Nat.le_of_not_lt fun e=>h1 (.inl e),Nat.le_of_not_lt fun e=>h1 (.inr (.inl e)),fun f hf=>?_,h2⟩
   exact Int.not_lt.1 fun e=>h1 (.inr (.inr ⟨f,hf,e⟩))
  ·rw [if_neg h2] at h; cases h
theorem len_count {l:List Fc} {f:Fc} (hf:f ∈ l):f.code.length ≤ countS l:=by
 unfold countS
 induction l with
 | nil=>cases hf
 | cons g l ih =>
  rw [List.map_cons,List.sum_cons]
  rcases List.mem_cons.1 hf with rfl | h
  ·omega
  ·have:=ih h; omega
theorem fcS_parts {l:List Fc} {f:Fc} (h:fcS l f=true):0 ≤ f.params∧f.params ≤ f.places∧1 ≤ f.code.length∧∀ x ∈ f.code,instS l f x=true:=by
 unfold fcS inB at h
 simp only [Bool.and_eq_true,decide_eq_true_eq,List.all_eq_true] at h
 exact ⟨h.2.1.1,h.2.1.2,h.2.2.2.1,h.2.2.2.2⟩
theorem valid_fc {l:List Fc} (h:validS l=0) {f:Fc} (hf:f ∈ l):fcS l f=true:=by
 obtain ⟨j,hj,rfl⟩:=List.getElem_of_mem hf
 have:=((valid_parts h).2.2.2 j hj).1
 rwa [List.getD,List.getElem?_eq_getElem hj,Option.getD_some] at this
theorem sane_inst {l:List Fc} (h:validS l=0) {f:Fc} {x:Cd} (hi:instS l f x=true):0 ≤ takesS x∧takesS x ≤ 200∧(leadsS x.op=true → 0 ≤ x.a∧x.a < f.code.length):=by
 obtain ⟨op,a,b,ty,nm⟩:=x
 have hlead:leadsS op=true → (op=12 ∨ op=13 ∨ op=14 ∨ op=15):=by
  intro e
  unfold leadsS at e
  simpa using e
 by_cases h16:op=16
 ·subst h16
  unfold instS shapeS at hi
  simp at hi
  obtain ⟨h1,⟨h2,h3⟩,h4⟩:=hi
  have h5:(indexS l nm).toNat < l.length:=by
   unfold indexS at h2 ⊢
   rcases findI_cases (fun k=>(l.getD k default).name.toList == nm.toList) l.length with ⟨e,_⟩ | ⟨k,e,hk,_⟩
   ·rw [e] at h2; omega
   ·rw [e]; simpa using hk
  have h6:=getD_mem h5
  have h7:=fcS_parts (valid_fc h h6)
  have h8:=(valid_parts h).2.2.1 _ h6
  have e:takesS ⟨16,a,b,ty,nm⟩=b:=rfl
  rw [e]
  have h3':b=(l.getD (indexS l nm).toNat default).params:=by simpa using h3
  refine ⟨by omega,by omega,fun hl=>?_⟩
  cases hl
 ·have hb:∀ (b:Bool) (u v:Int),(0 ≤ u∧u ≤ 200) → (0 ≤ v∧v ≤ 200) → 0 ≤ (bif b then u else v)∧(bif b then u else v) ≤ 200:=by
   intro b u v hu hv
   cases b
   ·exact hv
   ·exact hu
  have ht:0 ≤ takesS ⟨op,a,b,ty,nm⟩∧takesS ⟨op,a,b,ty,nm⟩ ≤ 200:=by
   unfold takesS
   simp only [show (op == 16)=false by simpa using h16,cond_false]
   exact hb _ _ _ (by decide) (hb _ _ _ (by decide) (hb _ _ _ (by decide) (hb _ _ _ (by decide) (by decide))))
  refine ⟨ht.1,ht.2,fun hl=>?_⟩
  ·have h12:=hlead hl
   unfold instS shapeS inB at hi
   rcases h12 with rfl | rfl | rfl | rfl <;>
   ·simp at hi
    exact ⟨hi.1.1,by show a < f.code.length; omega⟩
theorem sane_of {l:List Fc} (h:validS l=0) {f:Fc} (hf:f ∈ l):Sane f.code:=by
 have h1:=fcS_parts (valid_fc h hf)
 have h2:=len_count hf
 have h3:=(valid_parts h).2.1
 exact ⟨h1.2.2.1,by omega,fun x hx=>sane_inst h (h1.2.2.2 x hx)⟩

def waysS (c:List Cd) (p:Int × Int):List (Int × Int) :=
 (bif goesS (xAt c p) then [(p.1 + 1,behS (xAt c p) p.2)] else []) ++ (bif leadsS (xAt c p).op then [((xAt c p).a,leadH (xAt c p) p.2)] else [])
def fitB (c:List Cd) (q:Int × Int):Bool:=decide (q.1 < (c.length:Int))
def newsS (c:List Cd) (L:List (Int × Int)):List (Int × Int):=L.filter (fitB c)
def setO (O:Int → Bool) (a:Int) (b:Bool):Int → Bool:=fun i=>if i=a then O i || b else O i
theorem setO_false (O:Int → Bool) (a:Int):setO O a false=O:=by
 funext i
 unfold setO
 split <;> simp
def outB (c:List Cd) (L:List (Int × Int)):Bool:=L.any fun q=>!fitB c q
structure RfInv (c:List Cd) (S T:List (Int × Int)) (O:Int → Bool):Prop where
 nd:S.Nodup
 allS:∀ q ∈ S,Reach c q
 allT:∀ q ∈ T,Reach c q
 zero:(0,0) ∈ S ∨ (0,0) ∈ T
 closed:∀ q ∈ S,okH (xAt c q) q.2=true → (leadsS (xAt c q).op=true → ((xAt c q).a,leadH (xAt c q) q.2) ∈ S ∨ ((xAt c q).a,leadH (xAt c q) q.2) ∈ T) ∧
  (goesS (xAt c q)=true → q.1 + 1 ≠ c.length → (q.1 + 1,behS (xAt c q) q.2) ∈ S ∨ (q.1 + 1,behS (xAt c q) q.2) ∈ T)
 outs:∀ i,O i=true ↔ ∃ q ∈ S,q.1=i∧okH (xAt c q) q.2=true∧goesS (xAt c q)=true∧q.1 + 1=c.length
 len:T.length ≤ 2 * S.length + 1
def rfMs (c:List Cd) (S T:List (Int × Int)):Nat:=3 * (66 * c.length - S.length) + T.length
section
variable {c:List Cd} {S T:List (Int × Int)} {O:Int → Bool} {p:Int × Int}
theorem RfInv.start:RfInv c [] [(0,0)] (fun _=>false):=by
 refine ⟨by simp,fun q h=>(by cases h),?_,.inr (List.mem_singleton.2 rfl),fun q h=>(by cases h),fun i=>⟨fun h=>(by cases h),fun ⟨q,h,_⟩=>(by cases h)⟩,by simp⟩
 intro q h
 rw [List.mem_singleton] at h
 subst h
 exact .start
theorem RfInv.lens (s:Sane c) (v:RfInv c S T O):S.length ≤ 66 * c.length∧T.length ≤ 132 * c.length + 1:=by
 have h1:=pts_len v.nd fun p hp=>(v.allS p hp).inb s
 have h2:=v.len
 omega
theorem RfInv.skip (v:RfInv c S (p :: T) O) (h:p ∈ S):RfInv c S T O∧rfMs c S T < rfMs c S (p :: T):=by
 have mv:∀ q,(q ∈ S ∨ q ∈ p :: T) → q ∈ S ∨ q ∈ T:=by
  rintro q (h1 | h1)
  ·exact .inl h1
  ·rcases List.mem_cons.1 h1 with rfl | h1
   ·exact .inl h
   ·exact .inr h1
 refine ⟨⟨v.nd,v.allS,fun q hq=>v.allT q (List.mem_cons_of_mem _ hq),mv _ v.zero,fun q hq ok=>⟨fun h1=>mv _ ((v.closed q hq ok).1 h1),fun h1 h2=>mv _ ((v.closed q hq ok).2 h1 h2)⟩,v.outs,?_⟩,?_⟩
 ·have:=v.len; simp at this; omega
 ·unfold rfMs; simp
theorem ways_len (c:List Cd) (p:Int × Int):(waysS c p).length ≤ 2:=by
 unfold waysS
 cases goesS (xAt c p) <;> cases leadsS (xAt c p).op <;> simp
theorem RfInv.wrong (s:Sane c) (v:RfInv c S (p :: T) O) (h:p ∉ S) (ok:okH (xAt c p) p.2=false):RfInv c (p :: S) T O∧rfMs c (p :: S) T < rfMs c S (p :: T):=by
 have mv:∀ q,(q ∈ S ∨ q ∈ p :: T) → q ∈ p :: S ∨ q ∈ T:=by
  rintro q (h1 | h1)
  ·exact .inl (List.mem_cons_of_mem _ h1)
  ·rcases List.mem_cons.1 h1 with rfl | h1
   ·exact .inl (List.mem_cons_self ..)
   ·exact .inr h1
 have hp:=v.allT p (List.mem_cons_self ..)
 have r:RfInv c (p :: S) T O:=by
  refine ⟨List.nodup_cons.2 ⟨h,v.nd⟩,?_,fun q hq=>v.allT q (List.mem_cons_of_mem _ hq),mv _ v.zero,?_,fun i=>?_,?_⟩
  ·intro q hq
   rcases List.mem_cons.1 hq with rfl | hq
   ·exact hp
   ·exact v.allS q hq
  ·intro q hq ok2
   rcases List.mem_cons.1 hq with rfl | hq
   ·rw [ok] at ok2; cases ok2
   ·exact ⟨fun h1=>mv _ ((v.closed q hq ok2).1 h1),fun h1 h2=>mv _ ((v.closed q hq ok2).2 h1 h2)⟩
  ·rw [v.outs i]
   constructor
   ·rintro ⟨q,hq,e⟩
    exact ⟨q,List.mem_cons_of_mem _ hq,e⟩
   ·rintro ⟨q,hq,e1,e2,e3⟩
    rcases List.mem_cons.1 hq with rfl | hq
    ·rw [ok] at e2; cases e2
    ·exact ⟨q,hq,e1,e2,e3⟩
  ·have:=v.len; simp at this ⊢; omega
 refine ⟨r,?_⟩
 have:=(r.lens s).1
 unfold rfMs
 simp at this ⊢
 omega
theorem RfInv.on (s:Sane c) (v:RfInv c S (p :: T) O) (h:p ∉ S) (ok:okH (xAt c p) p.2=true) :
  RfInv c (p :: S) (T ++ newsS c (waysS c p)) (setO O p.1 (outB c (waysS c p)))∧rfMs c (p :: S) (T ++ newsS c (waysS c p)) < rfMs c S (p :: T):=by
 have hp:=v.allT p (List.mem_cons_self ..)
 have hin:=hp.inb s
 have sx:=s.each _ (xAt_mem hin)
 have mv:∀ q,(q ∈ S ∨ q ∈ p :: T) → q ∈ p :: S ∨ q ∈ T ++ newsS c (waysS c p):=by
  rintro q (h1 | h1)
  ·exact .inl (List.mem_cons_of_mem _ h1)
  ·rcases List.mem_cons.1 h1 with rfl | h1
   ·exact .inl (List.mem_cons_self ..)
   ·exact .inr (List.mem_append_left _ h1)
 have hnew:∀ q,q ∈ newsS c (waysS c p) ↔ q ∈ waysS c p∧q.1 < c.length:=fun q=>by
  unfold newsS fitB
  rw [List.mem_filter,decide_eq_true_eq]
 have hway:∀ q,q ∈ waysS c p ↔ (goesS (xAt c p)=true∧q=(p.1 + 1,behS (xAt c p) p.2)) ∨ (leadsS (xAt c p).op=true∧q=((xAt c p).a,leadH (xAt c p) p.2)):=fun q=>by
  unfold waysS
  cases goesS (xAt c p) <;> cases leadsS (xAt c p).op <;> simp
 have hout:outB c (waysS c p)=true ↔ goesS (xAt c p)=true∧p.1 + 1=c.length:=by
  unfold outB fitB
  rw [List.any_eq_true]
  constructor
  ·rintro ⟨q,hq,e⟩
   have e':¬ q.1 < (c.length:Int):=by simpa using e
   rcases (hway q).1 hq with ⟨h1,rfl⟩ | ⟨h1,rfl⟩
   ·exact ⟨h1,by have:=hin.2.1; simp only [] at e'; omega⟩
   ·exact absurd (sx.2.2 h1).2 e'
  ·rintro ⟨h1,h2⟩
   exact ⟨_,(hway _).2 (.inl ⟨h1,rfl⟩),by simp; omega⟩
 have r:RfInv c (p :: S) (T ++ newsS c (waysS c p)) (setO O p.1 (outB c (waysS c p))):=by
  refine ⟨List.nodup_cons.2 ⟨h,v.nd⟩,?_,?_,mv _ v.zero,?_,fun i=>?_,?_⟩
  ·intro q hq
   rcases List.mem_cons.1 hq with rfl | hq
   ·exact hp
   ·exact v.allS q hq
  ·intro q hq
   rcases List.mem_append.1 hq with hq | hq
   ·exact v.allT q (List.mem_cons_of_mem _ hq)
   ·obtain ⟨h1,h2⟩:=(hnew q).1 hq
    rcases (hway q).1 h1 with ⟨h3,rfl⟩ | ⟨h3,rfl⟩
    ·exact hp.next ok h3 (by simp only [] at h2; omega)
    ·exact hp.lead ok h3
  ·intro q hq ok2
   rcases List.mem_cons.1 hq with rfl | hq
   ·refine ⟨fun h1=>.inr (List.mem_append_right _ ((hnew _).2 ⟨(hway _).2 (.inr ⟨h1,rfl⟩),(sx.2.2 h1).2⟩)),fun h1 h2=>.inr (List.mem_append_right _ ((hnew _).2 ⟨(hway _).2 (.inl ⟨h1,rfl⟩),?_⟩))⟩
    have:=hin.2.1
    show q.1 + 1 < _
    omega
   ·exact ⟨fun h1=>mv _ ((v.closed q hq ok2).1 h1),fun h1 h2=>mv _ ((v.closed q hq ok2).2 h1 h2)⟩
  ·have e:setO O p.1 (outB c (waysS c p)) i=true ↔ O i=true ∨ (i=p.1∧outB c (waysS c p)=true):=by
    unfold setO
    by_cases hi:i=p.1
    ·rw [if_pos hi,Bool.or_eq_true]
     constructor
     ·rintro (h1 | h1)
      ·exact .inl h1
      ·exact .inr ⟨hi,h1⟩
     ·rintro (h1 | ⟨_,h1⟩)
      ·exact .inl h1
      ·exact .inr h1
    ·rw [if_neg hi]
     constructor
     ·exact .inl
     ·rintro (h1 | ⟨h1,_⟩)
      ·exact h1
      ·exact absurd h1 hi
   rw [e,v.outs i,hout]
   constructor
   ·rintro (⟨q,hq,e⟩ | ⟨rfl,h1,h2⟩)
    ·exact ⟨q,List.mem_cons_of_mem _ hq,e⟩
    ·exact ⟨p,List.mem_cons_self ..,rfl,ok,h1,h2⟩
   ·rintro ⟨q,hq,e1,e2,e3,e4⟩
    rcases List.mem_cons.1 hq with rfl | hq
    ·exact .inr ⟨e1.symm,e3,e4⟩
    ·exact .inl ⟨q,hq,e1,e2,e3,e4⟩
  ·have h1:=v.len
   have h2:(newsS c (waysS c p)).length ≤ 2:=Nat.le_trans (List.length_filter_le _ _) (ways_len c p)
   rw [List.length_append]
   simp at h1 ⊢
   omega
 refine ⟨r,?_⟩
 have h1:=(r.lens s).1
 have h2:(newsS c (waysS c p)).length ≤ 2:=Nat.le_trans (List.length_filter_le _ _) (ways_len c p)
 unfold rfMs
 rw [List.length_append]
 simp at h1 ⊢
 omega
theorem RfInv.end_ (v:RfInv c S [] O):(∀ q,q ∈ S ↔ Reach c q)∧∀ i,BadIn c (Reach c) i ↔ ((∃ h,(i,h) ∈ S∧okH (xAt c (i,h)) h=false) ∨ (∃ h k,h ≠ k∧(i,h) ∈ S∧(i,k) ∈ S) ∨ O i=true):=by
 have ha:∀ q,q ∈ S ↔ Reach c q:=by
  intro q
  constructor
  ·exact v.allS q
  ·intro h
   induction h with
   | start=>exact v.zero.elim id (fun h=>by cases h)
   | lead _ ok ld ih=>exact ((v.closed _ ih ok).1 ld).elim id (fun h=>by cases h)
   | next _ ok go ne ih=>exact ((v.closed _ ih ok).2 go ne).elim id (fun h=>by cases h)
 refine ⟨ha,fun i=>?_⟩
 rw [v.outs i]
 unfold BadIn bad1
 constructor
 ·rintro (⟨⟨a,h⟩,hp,rfl,hb | ⟨h1,h2⟩⟩ | ⟨⟨a,h⟩,⟨b,k⟩,hp,hq,rfl,e,hne⟩)
  ·exact .inl ⟨h,(ha _).2 hp,hb⟩
  ·cases ok:okH (xAt c (a,h)) h
   ·exact .inl ⟨h,(ha _).2 hp,ok⟩
   ·exact .inr (.inr ⟨(a,h),(ha _).2 hp,rfl,ok,h1,h2⟩)
  ·obtain rfl:b=a:=e
   exact .inr (.inl ⟨h,k,fun e=>hne (by rw [e]),(ha _).2 hp,(ha _).2 hq⟩)
 ·rintro (⟨h,hp,hb⟩ | ⟨h,k,hne,hp,hq⟩ | ⟨q,hq,rfl,h1,h2,h3⟩)
  ·exact .inl ⟨(i,h),(ha _).1 hp,rfl,.inl hb⟩
  ·exact .inr ⟨(i,h),(i,k),(ha _).1 hp,(ha _).1 hq,rfl,rfl,fun e=>hne (Prod.mk.inj e).2⟩
  ·exact .inl ⟨q,(ha _).1 hq,rfl,.inr ⟨h2,h3⟩⟩
end
end Go.Proofs.YtcoookehfhhhdaaGreatDoor.c
