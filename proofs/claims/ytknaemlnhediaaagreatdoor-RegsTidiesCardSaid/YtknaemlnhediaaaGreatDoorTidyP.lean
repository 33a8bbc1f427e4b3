/- Register code without an instruction that does nothing: what is left has the same order, is right, and does the same in no more steps. No condition. Code without what does nothing: runs of it are the same, unless one is too long; all that does nothing left out at once. No condition. All instructions that do nothing left out at once, as one after the other. What places say of it. No condition. -/
import Derived.Test.YtknaemlnhediaaaGreatDoorSame
import Derived.Test.YtknaemlnhediaaaGreatDoorPermP
import Derived.Test.YtknaemlnhediaaaGreatDoorLiveP
import Derived.Test.YtknaemlnhediaaaGreatDoorHm
namespace Go.Proofs.YtknaemlnhediaaaGreatDoor.c
open Go.RowKit
set_option linter.unusedVariables false
set_option linter.unusedSimpArgs false
def delX (i:Nat) (x:Rg):Rg:=if (partsR x.op).1=3∧(i:Int) < x.d then { x with d:=x.d - 1 } else x
def delC (c:List Rg) (i:Nat):List Rg:=(c.eraseIdx i).map (delX i)
noncomputable def rmB (c:List Rg) (i:Nat):Bool:=decide (i < c.length) && (((c.getD i default).op == 2 && (c.getD i default).d == (c.getD i default).a) || deadB c i)
def oldP (i q:Nat):Nat:=if q < i then q else q + 1
def newP (i p:Nat):Nat:=if p ≤ i then p else p - 1
theorem delX_else {i:Nat} {x:Rg} (h:(partsR x.op).1 ≠ 3):delX i x=x:=if_neg fun h2=>h h2.1
theorem delX_op (i:Nat) (x:Rg):(delX i x).op=x.op∧(delX i x).a=x.a∧(delX i x).b=x.b∧(delX i x).ty=x.ty∧(delX i x).name=x.name∧(delX i x).args=x.args:=by
 unfold delX
 split <;> exact ⟨rfl,rfl,rfl,rfl,rfl,rfl⟩
theorem delX_reads (i:Nat) (x:Rg) (r:Int):readsB (delX i x) r=readsB x r:=by
 obtain ⟨h1,h2,h3,_⟩:=delX_op i x
 unfold readsB
 rw [h1,h2,h3]
theorem delX_wr (i:Nat) (x:Rg) (r:Int):wrB (delX i x) r=wrB x r:=by
 by_cases h:(partsR x.op).1=3
 ·have h1:=(delX_op i x).1
  unfold wrB writesR
  rw [h1,h]
  rfl
 ·rw [delX_else h]
theorem delX_d {i:Nat} {x:Rg} (h:(partsR x.op).1=3) (h0:0 ≤ x.d):(delX i x).d=(newP i x.d.toNat:Nat):=by
 unfold delX newP
 by_cases e:(i:Int) < x.d
 ·rw [if_pos ⟨h,e⟩,if_neg (by omega)]
  show x.d - 1=_
  omega
 ·rw [if_neg (fun h2=>e h2.2),if_pos (by omega)]
  omega
theorem delC_at (c:List Rg) (i q:Nat):(delC c i).getD q default=delX i (c.getD (oldP i q) default):=by
 show ((c.eraseIdx i).map (delX i)).getD q default=_
 rw [getD_map (delX i) _ q (d:=default) (delX_else (by decide))]
 congr 1
 simp only [List.getD,List.getElem?_eraseIdx]
 unfold oldP
 split <;> rfl
theorem delC_len {c:List Rg} {i:Nat} (h:i < c.length):(delC c i).length=c.length - 1:=by
 show ((c.eraseIdx i).map (delX i)).length=_
 rw [List.length_map,List.length_eraseIdx_of_lt h]
theorem leads_parts {op:Int} (h:leadsR op=true):(partsR op).1=3:=by
 unfold leadsR at h
 simp only [Bool.or_eq_true,beq_iff_eq] at h
 rcases h with h | h | h | h <;> rw [h] <;> rfl
theorem GoodF.lead {l:List Rf} {f:Rf} (g:GoodF l f) {p:Nat} (hp:p < f.code.length) (h:(partsR (f.code.getD p default).op).1=3):0 ≤ (f.code.getD p default).d∧(f.code.getD p default).d < f.code.length:=by
 have:=(g.at_ (getD_mem hp)).d
 rw [h] at this
 exact isPartB_place this
theorem rmB_parts {c:List Rg} {i:Nat} (h:rmB c i=true):i < c.length∧goesR (c.getD i default).op=true∧(partsR (c.getD i default).op).1=1∧((c.getD i default).op=0 ∨ (c.getD i default).op=1 ∨ (c.getD i default).op=2 ∨ (c.getD i default).op=3 ∨ (c.getD i default).op=6 ∨ (c.getD i default).op=16) ∧
  (((c.getD i default).op=2∧(c.getD i default).d=(c.getD i default).a) ∨ ¬ LiveO c (c.getD i default).d i):=by
 unfold rmB deadB at h
 simp only [Bool.and_eq_true,Bool.or_eq_true,beq_iff_eq,decide_eq_true_eq,Bool.not_eq_true',Bool.eq_false_iff,Ne,liveB_iff] at h
 obtain ⟨h1,h2⟩:=h
 have h3:(c.getD i default).op=0 ∨ (c.getD i default).op=1 ∨ (c.getD i default).op=2 ∨ (c.getD i default).op=3 ∨ (c.getD i default).op=6 ∨ (c.getD i default).op=16:=by
  rcases h2 with h2 | h2
  ·exact .inr (.inr (.inl h2.1))
  ·exact h2.1
 refine ⟨h1,?_,?_,h3,?_⟩
 ·rcases h3 with h | h | h | h | h | h <;> rw [h] <;> rfl
 ·rcases h3 with h | h | h | h | h | h <;> rw [h] <;> rfl
 ·rcases h2 with h2 | h2
  ·exact .inl h2
  ·exact .inr h2.2
theorem rmB_mk {c:List Rg} {i:Nat} (h1:i < c.length) (h3:(c.getD i default).op=0 ∨ (c.getD i default).op=1 ∨ (c.getD i default).op=2 ∨ (c.getD i default).op=3 ∨ (c.getD i default).op=6 ∨ (c.getD i default).op=16)
  (h4:((c.getD i default).op=2∧(c.getD i default).d=(c.getD i default).a) ∨ ¬ LiveO c (c.getD i default).d i):rmB c i=true:=by
 unfold rmB deadB
 simp only [Bool.and_eq_true,Bool.or_eq_true,beq_iff_eq,decide_eq_true_eq,Bool.not_eq_true',Bool.eq_false_iff,Ne,liveB_iff]
 refine ⟨h1,?_⟩
 rcases h4 with h4 | h4
 ·exact .inl h4
 ·exact .inr ⟨h3,h4⟩
theorem del_next {l:List Rf} {f:Rf} (g:GoodF l f) {i q q':Nat} (hi:i < f.code.length) (hq:q + 1 < f.code.length) (h:q' ∈ nextL ((delC f.code i).getD q default) q) :
  ∃ p',p' ∈ nextL (f.code.getD (oldP i q) default) (oldP i q)∧(p'=oldP i q' ∨ (p'=i∧oldP i q'=i + 1)):=by
 have ho:oldP i q < f.code.length:=by unfold oldP; split <;> omega
 rw [delC_at] at h
 have hop:=(delX_op i (f.code.getD (oldP i q) default)).1
 unfold nextL at h ⊢
 rw [hop] at h
 rcases List.mem_append.1 h with h | h
 ·cases hg:goesR (f.code.getD (oldP i q) default).op with
  | false=>rw [hg] at h; cases h
  | true =>
   rw [hg] at h
   have e:q'=q + 1:=by simpa using h
   subst e
   refine ⟨oldP i q + 1,List.mem_append_left _ (by simp),?_⟩
   unfold oldP
   rcases Nat.lt_trichotomy (q + 1) i with h1 | h1 | h1
   ·left; rw [if_pos (by omega),if_pos h1]
   ·right; rw [if_pos (by omega),if_neg (by omega)]; omega
   ·left; rw [if_neg (by omega),if_neg (by omega)]
 ·cases hg:leadsR (f.code.getD (oldP i q) default).op with
  | false=>rw [hg] at h; cases h
  | true =>
   rw [hg] at h
   have e:q'=(delX i (f.code.getD (oldP i q) default)).d.toNat:=by simpa using h
   have h3:=leads_parts hg
   have hd:=g.lead ho h3
   rw [delX_d h3 hd.1,Int.toNat_natCast] at e
   refine ⟨(f.code.getD (oldP i q) default).d.toNat,List.mem_append_right _ (by simp),?_⟩
   rw [e]
   generalize (f.code.getD (oldP i q) default).d.toNat=d0
   unfold newP oldP
   rcases Nat.lt_trichotomy d0 i with h1 | h1 | h1
   ·left; (repeat' split) <;> omega
   ·right; refine ⟨h1,?_⟩; (repeat' split) <;> omega
   ·left; (repeat' split) <;> omega
theorem rm_back {c:List Rg} {i:Nat} (h:rmB c i=true) {r:Int} (hl:LiveI c r (i + 1)):LiveI c r i:=by
 obtain ⟨h1,h2,h3,h4,h5⟩:=rmB_parts h
 have hn:i + 1 ∈ nextL (c.getD i default) i:=by unfold nextL; rw [h2]; exact List.mem_append_left _ (by simp)
 cases hw:wrB (c.getD i default) r with
 | false=>exact .step h1 hw hn hl
 | true =>
  unfold wrB at hw
  simp only [Bool.and_eq_true,beq_iff_eq] at hw
  rcases h5 with ⟨h5,h6⟩ | h5
  ·refine .read h1 ?_
   unfold readsB
   rw [h5,← h6,hw.2]
   simp [partsR]
  ·exact absurd ⟨i + 1,hn,by rw [hw.2]; exact hl⟩ h5
theorem del_live {l:List Rf} {f:Rf} (g:GoodF l f) {i:Nat} (h:rmB f.code i=true) {r:Int} {q:Nat} (hl:LiveI (delC f.code i) r q):LiveI f.code r (oldP i q):=by
 obtain ⟨hi,_⟩:=rmB_parts h
 have hlen:=delC_len hi
 induction hl with
 | @read q hq h1 =>
  rw [delC_at,delX_reads] at h1
  exact .read (by unfold oldP; split <;> omega) h1
 | @step q q' hq h1 h2 _ ih =>
  rw [delC_at,delX_wr] at h1
  obtain ⟨p',a,b⟩:=del_next g hi (by omega) h2
  refine .step (by unfold oldP; split <;> omega) h1 a ?_
  rcases b with b | ⟨b,c⟩
  ·rw [b]; exact ih
  ·rw [b]; rw [c] at ih; exact rm_back h ih
theorem del_out {l:List Rf} {f:Rf} (g:GoodF l f) {i:Nat} (h:rmB f.code i=true) {r:Int} {q:Nat} (hq:q + 1 < f.code.length) (hl:LiveO (delC f.code i) r q):LiveO f.code r (oldP i q):=by
 obtain ⟨hi,_⟩:=rmB_parts h
 obtain ⟨q',h1,h2⟩:=hl
 obtain ⟨p',a,b⟩:=del_next g hi hq h1
 have h3:=del_live g h h2
 rcases b with b | ⟨b,c⟩
 ·exact ⟨p',a,by rw [b]; exact h3⟩
 ·exact ⟨p',a,by rw [b]; rw [c] at h3; exact rm_back h h3⟩
theorem del_keep {l:List Rf} {f:Rf} (g:GoodF l f) {i j:Nat} (h:rmB f.code i=true) (h2:rmB f.code j=true) (hne:i ≠ j):rmB (delC f.code i) (newP i j)=true:=by
 obtain ⟨hi,_⟩:=rmB_parts h
 obtain ⟨hj,_,a3,a4,a5⟩:=rmB_parts h2
 have hlen:=delC_len hi
 have e:oldP i (newP i j)=j:=by unfold oldP newP; split <;> split <;> omega
 have hn:newP i j + 1 < f.code.length ∨ newP i j < f.code.length - 1:=by unfold newP; split <;> omega
 have hx:(delC f.code i).getD (newP i j) default=f.code.getD j default:=by rw [delC_at,e,delX_else (by rw [a3]; decide)]
 refine rmB_mk (by unfold newP at *; split <;> omega) (by rw [hx]; exact a4) ?_
 rw [hx]
 refine a5.imp id fun h3 h4=>h3 ?_
 have:=del_out g h (by unfold newP at *; split <;> omega) h4
 rwa [e] at this
theorem rg_ext {c c':List Rg} (hl:c.length=c'.length) (h:∀ q,c.getD q default=c'.getD q default):c=c':=by
 refine List.ext_getElem hl fun q h1 h2=>?_
 have:=h q
 simpa [List.getD,List.getElem?_eq_getElem h1,List.getElem?_eq_getElem h2] using this
theorem delX_comm {i j:Nat} (hij:i < j) (x:Rg):delX i (delX j x)=delX (j - 1) (delX i x):=by
 by_cases h:(partsR x.op).1=3
 ·have key:∀ (k:Nat) (d:Int),delX k { x with d:=d }={ x with d:=if (k:Int) < d then d - 1 else d }:=by
   intro k d
   unfold delX
   by_cases e:(k:Int) < d
   ·rw [if_pos ⟨h,e⟩,if_pos e]
   ·rw [if_neg (fun h2=>e h2.2),if_neg e]
  show delX i (delX j { x with d:=x.d })=delX (j - 1) (delX i { x with d:=x.d })
  rw [key j,key i,key i,key (j - 1)]
  congr 1
  (repeat' split) <;> omega
 ·rw [delX_else h,delX_else h,delX_else h]
theorem del_comm {c:List Rg} {i j:Nat} (hij:i < j) (hj:j < c.length):delC (delC c j) i=delC (delC c i) (j - 1):=by
 have h1:=delC_len hj
 have h2:=delC_len (c:=c) (i:=i) (by omega)
 have h3:=delC_len (c:=delC c j) (i:=i) (by omega)
 have h4:=delC_len (c:=delC c i) (i:=j - 1) (by omega)
 refine rg_ext (by omega) fun q=>?_
 rw [delC_at,delC_at,delC_at,delC_at,delX_comm hij]
 congr 3
 unfold oldP
 repeat' split
 all_goals omega
theorem del_comm2 {c:List Rg} {i j:Nat} (hne:i ≠ j) (hi:i < c.length) (hj:j < c.length):delC (delC c j) (newP j i)=delC (delC c i) (newP i j):=by
 rcases Nat.lt_or_gt_of_ne hne with h | h
 ·rw [show newP j i=i by unfold newP; rw [if_pos (by omega)],show newP i j=j - 1 by unfold newP; rw [if_neg (by omega)]]
  exact del_comm h hj
 ·rw [show newP j i=i - 1 by unfold newP; rw [if_neg (by omega)],show newP i j=j by unfold newP; rw [if_pos (by omega)]]
  exact (del_comm h hi).symm
theorem isPartB_del {k d regs n:Int} {i:Nat} (hi:(i:Int) + 1 < n) (h:isPartB k d regs n=true):isPartB k (if k=3∧(i:Int) < d then d - 1 else d) regs (n - 1)=true:=by
 by_cases e:k=3
 ·subst e
  have:=isPartB_place h
  split
  ·show inB (d - 1) 0 (n - 1 - 1)=true
   rw [inB_iff]
   omega
  ·rename_i h2
   have h3:¬ (i:Int) < d:=fun h4=>h2 ⟨rfl,h4⟩
   show inB d 0 (n - 1 - 1)=true
   rw [inB_iff]
   omega
 ·rw [if_neg (fun h2=>e h2.1)]
  unfold isPartB at h ⊢
  by_cases h0:k=0
  ·rwa [if_pos h0] at h ⊢
  rw [if_neg h0] at h ⊢
  by_cases h1:k=1
  ·rwa [if_pos h1] at h ⊢
  rw [if_neg h1] at h ⊢
  by_cases h2:k=2
  ·rwa [if_pos h2] at h ⊢
  rw [if_neg h2,if_neg e]
theorem isPartB_less {k d regs n m:Int} (hk:k ≠ 3) (h:isPartB k d regs n=true):isPartB k d regs m=true:=by
 unfold isPartB at h ⊢
 by_cases h0:k=0
 ·rwa [if_pos h0] at h ⊢
 rw [if_neg h0] at h ⊢
 by_cases h1:k=1
 ·rwa [if_pos h1] at h ⊢
 rw [if_neg h1] at h ⊢
 by_cases h2:k=2
 ·rwa [if_pos h2] at h ⊢
 rw [if_neg h2,if_neg hk]
theorem parts_ab (op:Int):(partsR op).2.1 ≠ 3∧(partsR op).2.2 ≠ 3:=by
 unfold partsR
 repeat' split
 all_goals exact ⟨by decide,by decide⟩
theorem instR_del {pb:Bool} {regs n:Int} {i:Nat} (hi:(i:Int) + 1 < n) {x:Rg} (h:instR pb regs n x=true):instR pb regs (n - 1) (delX i x)=true:=by
 obtain ⟨k1,k2,k3,k4,k5,k6⟩:=delX_op i x
 have kd:(delX i x).d=if (partsR x.op).1=3∧(i:Int) < x.d then x.d - 1 else x.d:=by unfold delX; split <;> rfl
 unfold instR at h ⊢
 rw [k1,k2,k3,kd]
 have ea:argsB (delX i x)=argsB x:=by unfold argsB; rw [k1,k6]
 have er:restR pb (delX i x)=restR pb x:=by unfold restR; rw [k1,k2,k4,k5]
 rw [ea,er]
 simp only [Bool.and_eq_true] at h ⊢
 obtain ⟨h1,h2,h3,h4,h5,h6⟩:=h
 exact ⟨h1,isPartB_del hi h2,isPartB_less (parts_ab _).1 h3,isPartB_less (parts_ab _).2 h4,h5,h6⟩
theorem rm_notlast {l:List Rf} {f:Rf} (g:GoodF l f) {i:Nat} (h:rmB f.code i=true):i + 1 < f.code.length:=by
 obtain ⟨h1,h2,_⟩:=rmB_parts h
 exact g.next h1 h2
theorem good_del {l:List Rf} {f:Rf} (g:GoodF l f) {i:Nat} (h:rmB f.code i=true):GoodF l (f.with_ (delC f.code i)):=by
 have hi:=rm_notlast g h
 have hlen:=delC_len (c:=f.code) (i:=i) (by omega)
 refine ⟨g.par,g.reg,?_,?_,fun x hx=>?_,?_⟩
 ·show 1 ≤ (delC f.code i).length
  omega
 ·show (delC f.code i).length ≤ 6000
  have:=g.few
  omega
 ·obtain ⟨y,hy,rfl⟩:=List.mem_map.1 (show x ∈ (f.code.eraseIdx i).map (delX i) from hx)
  have h1:=g.inst y (List.mem_of_mem_eraseIdx hy)
  obtain ⟨_,_,_,_,k5,k6⟩:=delX_op i y
  rw [k5,k6]
  have h2:=instR_del (i:=i) (by omega) h1
  show instR _ f.regs (delC f.code i).length _=true
  rw [hlen,show ((f.code.length - 1:Nat):Int)=(f.code.length:Int) - 1 by omega]
  exact h2
 ·show goesR ((delC f.code i).getD ((delC f.code i).length - 1) default).op=false
  rw [hlen,delC_at,(delX_op i _).1]
  rw [show oldP i (f.code.length - 1 - 1)=f.code.length - 1 by unfold oldP; split <;> omega]
  exact g.last
inductive DelS:Nat → List Rg → List Rg → Prop where
 | zero {c}:DelS 0 c c
 | succ {n c c' i}:rmB c i=true → DelS n (delC c i) c' → DelS (n + 1) c c'
def Tidied (c:List Rg):Prop:=∀ i,rmB c i=false
theorem DelS.snoc {n:Nat} {c d:List Rg} (h:DelS n c d) {i:Nat} (hi:rmB d i=true):DelS (n + 1) c (delC d i):=by
 induction h with
 | zero=>exact .succ hi .zero
 | succ h1 _ ih=>exact .succ h1 (ih hi)
theorem DelS.trans {n m:Nat} {c d e:List Rg} (a:DelS n c d) (b:DelS m d e):DelS (n + m) c e:=by
 induction a with
 | zero=>rwa [Nat.zero_add]
 | @succ n c d i h1 _ ih=>rw [show n + 1 + m=(n + m) + 1 by omega]; exact .succ h1 (ih b)
theorem DelS.good {l:List Rf} {f:Rf} {n:Nat} {c d:List Rg} (h:DelS n c d) (gf:GoodF l (f.with_ c)):GoodF l (f.with_ d):=by
 induction h with
 | zero=>exact gf
 | succ h1 _ ih=>exact ih (good_del gf h1)
theorem DelS.descent {l:List Rf} {f:Rf}:∀ {m:Nat} {c d:List Rg},GoodF l (f.with_ c) → DelS m c d → Tidied d → ∀ {i},rmB c i=true → ∃ m',m=m' + 1∧DelS m' (delC c i) d:=by
 intro m
 induction m with
 | zero =>
  intro c d gf h ht i hi
  cases h
  rw [ht i] at hi
  cases hi
 | succ m ih =>
  intro c d gf h ht i hi
  cases h with
  | @succ _ _ _ j hj h1 =>
   by_cases e:i=j
   ·subst e
    exact ⟨m,rfl,h1⟩
   ·have h2:rmB (delC c j) (newP j i)=true:=del_keep gf hj hi (Ne.symm e)
    obtain ⟨m',rfl,h3⟩:=ih (good_del gf hj) h1 ht h2
    refine ⟨m' + 1,rfl,?_⟩
    have h4:rmB (delC c i) (newP i j)=true:=del_keep gf hi hj e
    have h5:DelS m' (delC (delC c j) (newP j i)) d:=h3
    rw [del_comm2 e (rmB_parts hi).1 (rmB_parts hj).1] at h5
    exact .succ h4 h5
theorem DelS.unique {l:List Rf} {f:Rf}:∀ {m n:Nat} {c d e:List Rg},GoodF l (f.with_ c) → DelS m c d → DelS n c e → Tidied d → Tidied e → d=e:=by
 intro m
 induction m with
 | zero =>
  intro n c d e gf a b td te
  cases a
  cases b with
  | zero=>rfl
  | succ h1 _=>rw [td _] at h1; cases h1
 | succ m ih =>
  intro n c d e gf a b td te
  cases a with
  | succ h1 a1 =>
   obtain ⟨n',_,b1⟩:=DelS.descent gf b te h1
   exact ih (good_del gf h1) a1 b1 td te
theorem DelS.ends {l:List Rf} {f:Rf}:∀ (q:Nat) {c:List Rg},GoodF l (f.with_ c) → c.length ≤ q → ∃ n d,DelS n c d∧Tidied d:=by
 intro q
 induction q with
 | zero =>
  intro c gf h
  have h1:1 ≤ c.length:=gf.pos
  omega
 | succ q ih =>
  intro c gf h
  by_cases ht:Tidied c
  ·exact ⟨0,c,.zero,ht⟩
  ·obtain ⟨i,hi⟩:∃ i,rmB c i=true:=by
    refine Classical.byContradiction fun hn=>ht fun i=>?_
    cases h2:rmB c i with
    | false=>rfl
    | true=>exact absurd ⟨i,h2⟩ hn
   have h3:=delC_len (rmB_parts hi).1
   have h1:1 ≤ c.length:=gf.pos
   obtain ⟨n,g,a,b⟩:=ih (c:=delC c i) (good_del gf hi) (by omega)
   exact ⟨n + 1,g,.succ hi a,b⟩
open Classical in
noncomputable def tidyC (c:List Rg):List Rg:=if h:∃ n d,DelS n c d∧Tidied d then Classical.choose (Classical.choose_spec h) else c
theorem tidyC_spec {l:List Rf} {f:Rf} (gf:GoodF l f):∃ n,DelS n f.code (tidyC f.code)∧Tidied (tidyC f.code):=by
 have h:=DelS.ends (l:=l) (f:=f) (c:=f.code) _ gf (Nat.le_refl _)
 have e:tidyC f.code=Classical.choose (Classical.choose_spec h):=by unfold tidyC; rw [dif_pos h]
 rw [e]
 exact ⟨_,Classical.choose_spec (Classical.choose_spec h)⟩
theorem tidyC_eq {l:List Rf} {f:Rf} {d:List Rg} {n:Nat} (gf:GoodF l f) (h:DelS n f.code d) (ht:Tidied d):tidyC f.code=d:=by
 obtain ⟨m,a,b⟩:=tidyC_spec gf
 exact DelS.unique (l:=l) (f:=f) (c:=f.code) gf a h b ht
theorem tidyC_same {l:List Rf} {f:Rf} (gf:GoodF l f) (h:Tidied f.code):tidyC f.code=f.code:=tidyC_eq gf .zero h
section set
variable {l:List Rf} {k:Nat} {g:Rf}
theorem set_index (hk:k < l.length) (hn:g.name=(l.getD k default).name) (nm:ByteArray):indexR (l.set k g) nm=indexR l nm:=by
 unfold indexR
 rw [List.length_set]
 congr 1
 funext j
 rw [set_at hk]
 by_cases e:j=k
 ·subst e; rw [if_pos rfl,hn]
 ·rw [if_neg e]
theorem set_params (hk:k < l.length) (hp:g.params=(l.getD k default).params) (j:Nat):((l.set k g).getD j default).params=(l.getD j default).params:=by
 rw [set_at hk]
 by_cases e:j=k
 ·subst e; rw [if_pos rfl,hp]
 ·rw [if_neg e]
theorem set_call (hk:k < l.length) (hn:g.name=(l.getD k default).name) (hp:g.params=(l.getD k default).params) (nm:ByteArray) (n:Int):callB (l.set k g) nm n=callB l nm n:=by
 unfold callB
 rw [set_index hk hn,set_params hk hp]
theorem set_count:∀ {l:List Rf} {k:Nat},k < l.length → g.code.length ≤ (l.getD k default).code.length → countR (l.set k g) ≤ countR l
 | [],_,h,_=>by cases h
 | f :: t,0,_,h=>by
  unfold countR
  simp only [List.set_cons_zero,List.map_cons,List.sum_cons]
  have:g.code.length ≤ f.code.length:=h
  omega
 | f :: t,k + 1,h,h2=>by
  have:=set_count (l:=t) (k:=k) (by simpa using h) h2
  unfold countR at this ⊢
  simp only [List.set_cons_succ,List.map_cons,List.sum_cons]
  omega
theorem fcR_of {f:Rf} (h:fcR l f=true) (gg:GoodF l (f.with_ g.code)) (hn:g.name=f.name) (hp:g.params=f.params) (hr:g.regs=f.regs) (ht:g.ty=f.ty):fcR l g=true:=by
 unfold fcR at h ⊢
 rw [hn,hp,hr,ht]
 simp only [Bool.and_eq_true,List.all_eq_true,decide_eq_true_eq,Bool.not_eq_true'] at h ⊢
 obtain ⟨a1,a2,a3,a4,_⟩:=h
 exact ⟨a1,a2,a3,a4,gg.pos,gg.inst,gg.last⟩
theorem fcR_set (hk:k < l.length) (hn:g.name=(l.getD k default).name) (hp:g.params=(l.getD k default).params) (f:Rf):fcR (l.set k g) f=fcR l f:=by
 unfold fcR
 simp only [set_call hk hn hp]
theorem valid_set (hk:k < l.length) (h0:validR l=0) (hn:g.name=(l.getD k default).name) (hp:g.params=(l.getD k default).params) (hr:g.regs=(l.getD k default).regs) (ht:g.ty=(l.getD k default).ty)
  (hl:g.code.length ≤ (l.getD k default).code.length) (gg:GoodF l ((l.getD k default).with_ g.code)):validR (l.set k g)=0:=by
 obtain ⟨h1,h2,_⟩:=validR_parts h0
 have hc:=set_count (g:=g) hk hl
 unfold validR at h0 ⊢
 rw [List.length_set,if_neg (show ¬ (48 < l.length ∨ 6000 < countR (l.set k g)) by omega)]
 rw [if_neg (show ¬ (48 < l.length ∨ 6000 < countR l) by omega)] at h0
 rw [if_pos]
 intro j hj
 split at h0
 ·rename_i hh
  obtain ⟨g1,g2⟩:=hh j hj
  rw [fcR_set hk hn hp,set_index hk hn,set_at hk]
  by_cases e:j=k
  ·subst e
   rw [if_pos rfl,hn]
   exact ⟨fcR_of g1 gg hn hp hr ht,g2⟩
  ·rw [if_neg e]
   exact ⟨g1,g2⟩
 ·cases h0
end set
def RelL (c:List Rg) (p:Nat) (R R':Nat → Val):Prop:=∀ r:Int,LiveI c r p → R' r.toNat=R r.toNat
theorem live_pos {l:List Rf} {f:Rf} (g:GoodF l f) {p:Nat} {r:Int} (h:LiveI f.code r p):0 ≤ r:=by
 obtain ⟨p2,h1,h2⟩:=live_reads h
 exact (readsB_in g h1 h2).1
theorem wr_false {x:Rg} {r:Int} (h:(partsR x.op).1 ≠ 1):wrB x r=false:=by
 unfold wrB writesR
 have:((partsR x.op).1 == 1)=false:=by simpa using h
 rw [this]
 rfl
theorem wr_other {x:Rg} {r:Int} (h:r ≠ x.d):wrB x r=false:=by
 unfold wrB
 have:(x.d == r)=false:=by simpa using Ne.symm h
 rw [this,Bool.and_false]
theorem goes_next {x:Rg} {p:Nat} (h:goesR x.op=true):p + 1 ∈ nextL x p:=by
 unfold nextL
 rw [h]
 exact List.mem_append_left _ (by simp)
section step
variable {l:List Rf} {f:Rf} {i p:Nat} {R R' S:Nat → Val} {ck:Bool}
theorem RelL.wr (g:GoodF l f) (hp:p < f.code.length) (h:RelL f.code p R R') (hg:goesR (f.code.getD p default).op=true) (hd:0 ≤ (f.code.getD p default).d) (v:Val):RelL f.code (p + 1) (upd R (f.code.getD p default).d.toNat v) (upd R' (f.code.getD p default).d.toNat v):=by
 intro r hr
 have h0:=live_pos g hr
 unfold c.upd
 by_cases e:r=(f.code.getD p default).d
 ·rw [e,if_pos rfl,if_pos rfl]
 ·rw [if_neg (by omega),if_neg (by omega)]
  exact h r (.step hp (wr_other e) (goes_next hg) hr)
theorem parts_leads {op:Int} (h:(partsR op).1=3):leadsR op=true:=by
 unfold partsR at h
 unfold leadsR
 simp only [Bool.or_eq_true,beq_iff_eq]
 revert h
 repeat' split
 all_goals (intro h; first | omega | cases h)
theorem step_del (g:GoodF l f) (hi:rmB f.code i=true) (hp:p < f.code.length) (hne:p ≠ i) (h:RelL f.code p R R') :
  match stepF ck (f.code.getD p default) p R S with
  | .done e=>stepF ck ((delC f.code i).getD (newP i p) default) (newP i p) R' S=.done e
  | .go q R1 S1=>∃ R1',stepF ck ((delC f.code i).getD (newP i p) default) (newP i p) R' S=.go (newP i q) R1' S1∧RelL f.code q R1 R1'
  | .call nm av r=>stepF ck ((delC f.code i).getD (newP i p) default) (newP i p) R' S=.call nm av r∧newP i p + 1=newP i (p + 1)∧∀ v,RelL f.code (p + 1) (upd R r v) (upd R' r v):=by
 have eo:oldP i (newP i p)=p:=by unfold oldP newP; split <;> split <;> omega
 have en:newP i p + 1=newP i (p + 1):=by unfold newP; split <;> split <;> omega
 rw [delC_at,eo]
 obtain ⟨x,hx⟩:∃ x,x=f.code.getD p default:=⟨_,rfl⟩
 have gx:GoodX l f x:=by rw [hx]; exact g.at_ (getD_mem hp)
 obtain ⟨k1,k2,k3,k4,k5,k6⟩:=delX_op i x
 have hup:∀ v,goesR x.op=true → 0 ≤ x.d → RelL f.code (p + 1) (upd R x.d.toNat v) (upd R' x.d.toNat v):=fun v h1 h2=>by
  rw [hx] at h1 h2 ⊢
  exact h.wr g hp h1 h2 v
 have hrd:∀ r,readsB x r=true → LiveI f.code r p:=fun r h1=>.read hp (by rw [← hx]; exact h1)
 have hst:∀ r q,wrB x r=false → q ∈ nextL x p → LiveI f.code r q → LiveI f.code r p:=fun r q h1 h2 h3=>.step hp (by rw [← hx]; exact h1) (by rw [← hx]; exact h2) h3
 rw [← hx]
 have he:efF ck (delX i x) (R' (delX i x).a.toNat) (R' (delX i x).b.toNat) S=efF ck x (R x.a.toNat) (R x.b.toNat) S:=by
  refine efF_like gx.op k1 k4 k5 (fun _=>k2) ?_ ?_
  ·intro h1
   rw [k2]
   exact h _ (hrd _ (by unfold readsB; rw [h1]; simp))
  ·intro h1
   rw [k3]
   exact h _ (hrd _ (by unfold readsB; rw [h1]; simp))
 have hk:=efF_kind (ck:=ck) (a:=R x.a.toNat) (b:=R x.b.toNat) (S:=S) gx.op
 rw [stepF_ef,stepF_ef,he]
 cases hE:efF ck x (R x.a.toNat) (R x.b.toNat) S with
 | done e=>rfl
 | wr v =>
  rw [hE] at hk
  have h3:delX i x=x:=delX_else (by rw [hk.1]; decide)
  refine ⟨_,?_,hup v hk.2.1 (gx.dreg hk.1).1⟩
  show Nx.go (newP i p + 1) (upd R' (delX i x).d.toNat v) S=_
  rw [h3,en]
 | mem S1 =>
  rw [hE] at hk
  refine ⟨R',?_,fun r hr=>h r (hst r _ (wr_false (by rw [hk.1]; decide)) (goes_next hk.2) hr)⟩
  show Nx.go (newP i p + 1) R' S1=_
  rw [en]
 | jump t =>
  rw [hE] at hk
  have hd0:0 ≤ x.d:=by rw [hx] at hk ⊢; exact (g.lead hp hk.1).1
  refine ⟨R',?_,fun r hr=>h r (hst r _ (wr_false (by rw [hk.1]; decide)) ?_ hr)⟩
  ·show Nx.go (bif t then (delX i x).d.toNat else newP i p + 1) R' S=Nx.go (newP i (bif t then x.d.toNat else p + 1)) R' S
   rw [delX_d hk.1 hd0,en]
   cases t <;> rfl
  ·cases t with
   | false=>exact goes_next (hk.2 rfl)
   | true =>
    unfold nextL
    rw [parts_leads hk.1]
    exact List.mem_append_right _ (by simp)
 | call =>
  rw [hE] at hk
  have h14:x.op=14:=hk
  have h1:(partsR x.op).1=1:=by rw [h14]; rfl
  have h3:delX i x=x:=delX_else (by rw [h1]; decide)
  refine ⟨?_,en,fun v=>hup v (by rw [h14]; rfl) (gx.dreg h1).1⟩
  show Nx.call (delX i x).name _ _=_
  rw [h3]
theorem step_rm (g:GoodF l f) (hi:rmB f.code i=true) (h:RelL f.code i R R'):∃ R1,stepF ck (f.code.getD i default) i R S=.go (i + 1) R1 S∧RelL f.code (i + 1) R1 R':=by
 obtain ⟨a1,a2,a3,a4,a5⟩:=rmB_parts hi
 have gx:=g.at_ (getD_mem a1)
 have hd:=(gx.dreg a3).1
 have hs:∃ v,stepF ck (f.code.getD i default) i R S=.go (i + 1) (upd R (f.code.getD i default).d.toNat v) S∧((f.code.getD i default).op=2 → v=R (f.code.getD i default).a.toNat):=by
  rw [stepF_ef]
  unfold efF
  rcases a4 with h | h | h | h | h | h
  ·exact ⟨_,by rw [if_pos h]; rfl,fun h2=>by omega⟩
  ·exact ⟨_,by rw [if_neg (by omega),if_pos h]; rfl,fun h2=>by omega⟩
  ·exact ⟨_,by rw [if_neg (by omega),if_neg (by omega),if_pos h]; rfl,fun h2=>rfl⟩
  ·exact ⟨_,by rw [if_neg (by omega),if_neg (by omega),if_neg (by omega),if_pos h]; rfl,fun h2=>by omega⟩
  ·refine ⟨nv (numF ck (f.code.getD i default) (R (f.code.getD i default).a.toNat) (R (f.code.getD i default).b.toNat)).1,?_,fun h2=>by omega⟩
   have hn:(numF ck (f.code.getD i default) (R (f.code.getD i default).a.toNat) (R (f.code.getD i default).b.toNat)).2=0:=by unfold numF; rw [if_pos h]
   rw [if_neg (by omega),if_neg (by omega),if_neg (by omega),if_neg (by omega),if_neg (by omega),if_neg (by omega),if_neg (by omega),if_neg (by omega),if_neg (by omega),if_neg (by omega),if_neg (by omega),if_neg (by omega),if_neg (by omega),hn]
   rfl
  ·exact ⟨_,by rw [if_neg (by omega),if_neg (by omega),if_neg (by omega),if_neg (by omega),if_neg (by omega),if_neg (by omega),if_neg (by omega),if_neg (by omega),if_neg (by omega),if_neg (by omega),if_neg (by omega),if_pos h]; rfl,fun h2=>by omega⟩
 obtain ⟨v,hv,h2⟩:=hs
 refine ⟨_,hv,fun r hr=>?_⟩
 have h0:=live_pos g hr
 unfold c.upd
 by_cases e:r=(f.code.getD i default).d
 ·rw [if_pos (by rw [e])]
  rcases a5 with ⟨h5,h6⟩ | h5
  ·rw [h2 h5,e,h6]
   refine h _ (.read a1 ?_)
   unfold readsB
   rw [h5]
   simp [partsR]
  ·exact absurd ⟨i + 1,goes_next a2,by rw [← e]; exact hr⟩ h5
 ·rw [if_neg (by omega)]
  exact h r (.step a1 (wr_other e) (goes_next a2) hr)
end step
inductive CD (l:List Rf) (k i:Nat):Cfg → Cfg → Prop where
 | call {d j av}:j < l.length → CD l k i (.call d j av) (.call d j av)
 | own {d p R R' S}:p < (l.getD k default).code.length → RelL (l.getD k default).code p R R' → CD l k i (.at_ d k p R S) (.at_ d k (newP i p) R' S)
 | other {d j p R S}:j < l.length → j ≠ k → p < (l.getD j default).code.length → CD l k i (.at_ d j p R S) (.at_ d j p R S)
theorem del_run {l:List Rf} {k i:Nat} (hk:k < l.length) (h0:validR l=0) (hi:rmB (l.getD k default).code i=true) {ck:Bool} {c:Cfg} {s:Nat} {e:En} {t:Nat} (h:Run l ck c s e t) :
  e ≠ .long → ∀ {c':Cfg} {s':Nat},CD l k i c c' → s' ≤ s → ∃ t',t' ≤ t∧Run (l.set k ((l.getD k default).with_ (delC (l.getD k default).code i))) ck c' s' e t':=by
 obtain ⟨_,_,hv⟩:=validR_parts h0
 obtain ⟨m,hm⟩:∃ m,m=l.set k ((l.getD k default).with_ (delC (l.getD k default).code i)):=⟨_,rfl⟩
 rw [← hm]
 have hix:∀ nm,indexR m nm=indexR l nm:=fun nm=>by rw [hm]; exact set_index (g:=(l.getD k default).with_ (delC (l.getD k default).code i)) hk rfl nm
 have ho:∀ j,j ≠ k → m.getD j default=l.getD j default:=fun j hj=>by rw [hm,set_at hk,if_neg hj]
 have hkk:(m.getD k default).code=delC (l.getD k default).code i:=by rw [hm,set_at hk,if_pos rfl]; rfl
 have gk:=(hv k hk).1
 have hst:∀ {j:Nat} (p:Nat),j ≠ k → (m.getD j default).code.getD p default=(l.getD j default).code.getD p default:=fun p hj=>by rw [ho _ hj]
 have hik:=(rmB_parts hi).1
 have hfin:∀ {j:Nat},j < l.length → ∀ (d:Nat) (av:List Val),CD l k i (.at_ d j 0 (fun _=>default) (fun i=>av.getD i default)) (.at_ d j 0 (fun _=>default) (fun i=>av.getD i default)):=by
  intro j hj d av
  by_cases ej:j=k
  ·subst ej
   have:=CD.own (l:=l) (k:=j) (i:=i) (d:=d) (p:=0) (R:=fun _=>default) (R':=fun _=>default) (S:=fun i=>av.getD i default) (by have:=gk.pos; omega) (fun _ _=>rfl)
   exact this
  ·exact .other hj ej (by have:=(hv j hj).1.pos; omega)
 induction h with
 | deep h1=>intro hne; exact absurd rfl hne
 | full h1=>intro hne; exact absurd rfl hne
 | @enter d j av s e t h1 _ ih =>
  intro hne c' s' hc hs
  cases hc with
  | call hj =>
   obtain ⟨t',a,b⟩:=ih hne (hfin hj d av) hs
   exact ⟨t',a,.enter h1 b⟩
 | @done d j p R S s e h1 h2 =>
  intro hne c' s' hc hs
  cases hc with
  | @own _ _ _ R' _ hp hr =>
   by_cases ep:p=i
   ·subst ep
    obtain ⟨R1,b1,_⟩:=step_rm (ck:=ck) (S:=S) gk hi hr
    rw [h2] at b1
    cases b1
   ·have hs2:=step_del (ck:=ck) (S:=S) gk hi hp ep hr
    rw [h2] at hs2
    exact ⟨s' + 1,by omega,.done (by omega) (by rw [hkk]; exact hs2)⟩
  | other hj hjk hp=>exact ⟨s' + 1,by omega,.done (by omega) (by rw [hst p hjk]; exact h2)⟩
 | @go d j p R S s e t p' R1 S1 h1 h2 _ ih =>
  intro hne c' s' hc hs
  cases hc with
  | @own _ _ _ R' _ hp hr =>
   by_cases ep:p=i
   ·subst ep
    obtain ⟨R2,b1,b2⟩:=step_rm (ck:=ck) (S:=S) gk hi hr
    rw [h2] at b1
    cases b1
    have hq:=rm_notlast gk hi
    have hcd:=CD.own (l:=l) (k:=k) (i:=p) (d:=d) (S:=S) hq b2
    rw [show newP p (p + 1)=newP p p by unfold newP; rw [if_neg (by omega),if_pos (Nat.le_refl _)]; rfl] at hcd
    exact ih hne hcd (by omega)
   ·have hs2:=step_del (ck:=ck) (S:=S) gk hi hp ep hr
    rw [h2] at hs2
    obtain ⟨R1',b1,b2⟩:=hs2
    obtain ⟨t',a,b⟩:=ih hne (s':=s' + 1) (.own (gk.ef_next hp h2) b2) (by omega)
    exact ⟨t',a,.go (by omega) (by rw [hkk]; exact b1) b⟩
  | other hj hjk hp =>
   obtain ⟨t',a,b⟩:=ih hne (s':=s' + 1) (.other hj hjk ((hv j hj).1.ef_next hp h2)) (by omega)
   exact ⟨t',a,.go (by omega) (by rw [hst p hjk]; exact h2) b⟩
 | @callX d j p R S s e t nm av r h1 h2 _ h4 ih =>
  intro hne c' s' hc hs
  cases hc with
  | @own _ _ _ R' _ hp hr =>
   by_cases ep:p=i
   ·subst ep
    obtain ⟨R1,b1,_⟩:=step_rm (ck:=ck) (S:=S) gk hi hr
    rw [h2] at b1
    cases b1
   ·have hs2:=step_del (ck:=ck) (S:=S) gk hi hp ep hr
    rw [h2] at hs2
    obtain ⟨t',a,b⟩:=ih hne (s':=s' + 1) (.call (gk.ef_call hp h2).2.1) (by omega)
    exact ⟨t',a,.callX (by omega) (by rw [hkk]; exact hs2.1) (by rw [hix]; exact b) h4⟩
  | other hj hjk hp =>
   obtain ⟨t',a,b⟩:=ih hne (s':=s' + 1) (.call ((hv j hj).1.ef_call hp h2).2.1) (by omega)
   exact ⟨t',a,.callX (by omega) (by rw [hst p hjk]; exact h2) (by rw [hix]; exact b) h4⟩
 | @callR d j p R S s v t e u nm av r h1 h2 _ _ ih1 ih2 =>
  intro hne c' s' hc hs
  cases hc with
  | @own _ _ _ R' _ hp hr =>
   by_cases ep:p=i
   ·subst ep
    obtain ⟨R1,b1,_⟩:=step_rm (ck:=ck) (S:=S) gk hi hr
    rw [h2] at b1
    cases b1
   ·have hs2:=step_del (ck:=ck) (S:=S) gk hi hp ep hr
    rw [h2] at hs2
    obtain ⟨b1,b2,b3⟩:=hs2
    have hc2:=gk.ef_call hp h2
    obtain ⟨t1,a1,r1⟩:=ih1 (fun h=>by cases h) (s':=s' + 1) (.call hc2.2.1) (by omega)
    have hcd:=CD.own (l:=l) (k:=k) (i:=i) (d:=d) (S:=S) hc2.1 (b3 v)
    rw [← b2] at hcd
    obtain ⟨t2,a2,r2⟩:=ih2 hne hcd a1
    exact ⟨t2,a2,.callR (by omega) (by rw [hkk]; exact b1) (by rw [hix]; exact r1) r2⟩
  | other hj hjk hp =>
   have hc2:=(hv j hj).1.ef_call hp h2
   obtain ⟨t1,a1,r1⟩:=ih1 (fun h=>by cases h) (s':=s' + 1) (.call hc2.2.1) (by omega)
   obtain ⟨t2,a2,r2⟩:=ih2 hne (.other hj hjk hc2.1) a1
   exact ⟨t2,a2,.callR (by omega) (by rw [hst p hjk]; exact h2) (by rw [hix]; exact r1) r2⟩
structure Does (l m:List Rf):Prop where
 valid:validR m=0
 errs:∀ nm av,runE m nm av=runE l nm av
 same:∀ nm av ck,(outR l nm av ck).1 ≠ .long → (outR m nm av ck).1=(outR l nm av ck).1
theorem Does.refl {l:List Rf} (h:validR l=0):Does l l:=⟨h,fun _ _=>rfl,fun _ _ _ _=>rfl⟩
theorem Does.trans {l m n:List Rf} (h:Does l m) (g:Does m n):Does l n :=
 ⟨g.valid,fun nm av=>(g.errs nm av).trans (h.errs nm av),fun nm av ck hne=>by
  have h1:=h.same nm av ck hne
  rw [← h1] at hne ⊢
  exact g.same nm av ck hne⟩
theorem does_del {l:List Rf} {k i:Nat} (hk:k < l.length) (h0:validR l=0) (hi:rmB (l.getD k default).code i=true):Does l (l.set k ((l.getD k default).with_ (delC (l.getD k default).code i))):=by
 obtain ⟨_,_,hv⟩:=validR_parts h0
 have gk:=(hv k hk).1
 have hlen:=delC_len (rmB_parts hi).1
 have hval:validR (l.set k ((l.getD k default).with_ (delC (l.getD k default).code i)))=0:=valid_set hk h0 rfl rfl rfl rfl (by show (delC _ i).length ≤ _; omega) (good_del gk hi)
 have herr:∀ nm av,runE (l.set k ((l.getD k default).with_ (delC (l.getD k default).code i))) nm av=runE l nm av:=fun nm av=>by
  unfold runE
  rw [hval,h0,set_index (g:=(l.getD k default).with_ (delC (l.getD k default).code i)) hk rfl,set_params (g:=(l.getD k default).with_ (delC (l.getD k default).code i)) hk rfl]
 refine ⟨hval,herr,fun nm av ck hne=>?_⟩
 by_cases h:runE l nm av=0
 ·obtain ⟨_,j,hj,hjl,_⟩:=runE_parts h
  have hr:=runX_run l ck j (av.map plainV)
  rw [outR_eq h hj hr] at hne ⊢
  obtain ⟨t',_,b⟩:=del_run hk h0 hi hr hne (.call hjl) (Nat.le_refl _)
  rw [outR_eq (by rw [herr]; exact h) (by rw [set_index (g:=(l.getD k default).with_ (delC (l.getD k default).code i)) hk rfl]; exact hj) b]
 ·unfold outR
  rw [herr,if_neg h,if_neg h]
theorem does_dels {k n:Nat} {c d:List Rg} (h:DelS n c d):∀ {l:List Rf},k < l.length → validR l=0 → (l.getD k default).code=c → Does l (l.set k ((l.getD k default).with_ d)):=by
 induction h with
 | @zero c =>
  intro l hk h0 hc
  have e:l.set k ((l.getD k default).with_ c)=l:=by
   rw [← hc]
   show l.set k (l.getD k default)=l
   rw [List.getD,List.getElem?_eq_getElem hk]
   exact List.set_getElem_self hk
  rw [e]
  exact .refl h0
 | @succ n c d i h1 _ ih =>
  intro l hk h0 hc
  subst hc
  have h2:=does_del hk h0 h1
  obtain ⟨m,hm⟩:∃ m,m=l.set k ((l.getD k default).with_ (delC (l.getD k default).code i)):=⟨_,rfl⟩
  rw [← hm] at h2
  have hmk:m.getD k default=(l.getD k default).with_ (delC (l.getD k default).code i):=by rw [hm,set_at hk,if_pos rfl]
  have h3:=ih (l:=m) (by rw [hm,List.length_set]; exact hk) h2.valid (by rw [hmk]; rfl)
  rw [hmk] at h3
  have e:m.set k (((l.getD k default).with_ (delC (l.getD k default).code i)).with_ d)=l.set k ((l.getD k default).with_ d):=by
   rw [hm,List.set_set]
   rfl
  rw [e] at h3
  exact h2.trans h3
noncomputable def tidyF (f:Rf):Rf:=f.with_ (tidyC f.code)
noncomputable def tidyL (l:List Rf):List Rf:=l.map tidyF
noncomputable def tidyR (l:List Rf):List Rf:=if validR l=0 then tidyL l else []
theorem tidyL_at (l:List Rf) {k:Nat} (hk:k < l.length):(tidyL l).getD k default=tidyF (l.getD k default):=by
 unfold tidyL
 simp [List.getD,hk]
theorem does_tidy {l:List Rf} (h0:validR l=0):Does l (tidyL l):=by
 obtain ⟨_,_,hv⟩:=validR_parts h0
 have key:∀ k,k ≤ l.length → Does l ((l.take k).map tidyF ++ l.drop k):=by
  intro k
  induction k with
  | zero=>intro _; exact .refl h0
  | succ k ih =>
   intro hk
   have h1:=ih (by omega)
   obtain ⟨m,hm⟩:∃ m,m=(l.take k).map tidyF ++ l.drop k:=⟨_,rfl⟩
   rw [← hm] at h1
   have hkl:k < l.length:=by omega
   have hlen:((l.take k).map tidyF).length=k:=by rw [List.length_map,List.length_take]; omega
   have hmk:m.getD k default=l.getD k default:=by
    rw [hm,List.getD,List.getElem?_append_right (by omega),hlen,Nat.sub_self,List.getElem?_drop]
    rfl
   have hml:k < m.length:=by rw [hm,List.length_append,hlen,List.length_drop]; omega
   obtain ⟨n,hd,_⟩:=tidyC_spec (hv k hkl).1
   have h2:=does_dels (l:=m) hd hml h1.valid (by rw [hmk])
   rw [hmk] at h2
   have e:m.set k ((l.getD k default).with_ (tidyC (l.getD k default).code))=(l.take (k + 1)).map tidyF ++ l.drop (k + 1):=by
    rw [hm,List.set_append_right _ _ (by omega),hlen,Nat.sub_self,List.drop_eq_getElem_cons hkl,List.set_cons_zero,List.take_succ_eq_append_getElem hkl,List.map_append,List.append_assoc]
    simp only [List.map_cons,List.map_nil,List.singleton_append]
    congr 2
    show (l.getD k default).with_ (tidyC (l.getD k default).code)=tidyF l[k]
    rw [List.getD,List.getElem?_eq_getElem hkl]
    rfl
   rw [e] at h2
   exact h1.trans h2
 have h:=key l.length (Nat.le_refl _)
 rw [List.take_length,List.drop_length,List.append_nil] at h
 exact h
theorem tidy_tidied {l:List Rf} (h0:validR l=0) {k:Nat} (hk:k < l.length):Tidied ((tidyL l).getD k default).code:=by
 obtain ⟨_,_,hv⟩:=validR_parts h0
 rw [tidyL_at l hk]
 obtain ⟨_,_,h⟩:=tidyC_spec (hv k hk).1
 exact h
def atG (gone:Nat → Bool) (d:Nat):Nat:=((List.range d).filter fun j=>!gone j).length
def movX (gone:Nat → Bool) (x:Rg):Rg:=if leadsR x.op=true then { x with d:=(atG gone x.d.toNat:Nat) } else x
def withoutC (c:List Rg) (gone:Nat → Bool):List Rg:=((List.range c.length).filter fun j=>!gone j).map fun j=>movX gone (c.getD j default)
def goneK (gone:Nat → Bool) (k j:Nat):Bool:=gone j && decide (k ≤ j)
theorem range_split {k n:Nat} (h:k < n):List.range n=List.range k ++ k :: List.range' (k + 1) (n - k - 1):=by
 rw [show List.range n=List.range' 0 n from List.range_eq_range',show n=k + (1 + (n - k - 1)) by omega,← List.range'_append_1,← List.range'_append_1,List.range_eq_range']
 congr 1
 rw [show k + (1 + (n - k - 1)) - k - 1=n - k - 1 by omega]
 simp
theorem filter_low {gone:Nat → Bool} {k n:Nat} (h:n ≤ k):(List.range n).filter (fun j=>!goneK gone k j)=List.range n:=by
 rw [List.filter_eq_self]
 intro j hj
 have:=List.mem_range.1 hj
 unfold goneK
 rw [decide_eq_false (by omega),Bool.and_false]
 rfl
theorem filter_split {gone:Nat → Bool} {k n:Nat} (h:k < n) (hg:gone k=true):∃ T,(List.range n).filter (fun j=>!goneK gone (k + 1) j)=List.range k ++ k :: T∧(List.range n).filter (fun j=>!goneK gone k j)=List.range k ++ T:=by
 refine ⟨(List.range' (k + 1) (n - k - 1)).filter (fun j=>!goneK gone k j),?_,?_⟩
 ·rw [range_split h,List.filter_append,filter_low (by omega),List.filter_cons,if_pos (by unfold goneK; simp)]
  congr 2
  refine List.filter_congr fun j hj=>?_
  have:=(List.mem_range'_1.1 hj).1
  unfold goneK
  rw [decide_eq_true (show k + 1 ≤ j by omega),decide_eq_true (show k ≤ j by omega)]
 ·rw [range_split h,List.filter_append,filter_low (by omega),List.filter_cons,if_neg (by unfold goneK; simp [hg])]
theorem atG_low {gone:Nat → Bool} {k d:Nat} (h:d ≤ k):atG (goneK gone k) d=d:=by
 unfold atG
 rw [filter_low h,List.length_range]
theorem atG_step {gone:Nat → Bool} {k d:Nat} (h:k < d) (hg:gone k=true):atG (goneK gone (k + 1)) d=atG (goneK gone k) d + 1∧k < atG (goneK gone (k + 1)) d:=by
 obtain ⟨T,h1,h2⟩:=filter_split h hg
 unfold atG
 rw [h1,h2]
 simp
 omega
theorem leads_iff {op:Int}:leadsR op=true ↔ (partsR op).1=3:=⟨leads_parts,parts_leads⟩
theorem movX_low {l:List Rf} {f:Rf} (g:GoodF l f) {gone:Nat → Bool} {k p:Nat} (hp:p < f.code.length) (h:f.code.length ≤ k):movX (goneK gone k) (f.code.getD p default)=f.code.getD p default:=by
 unfold movX
 split
 ·rename_i hl
  have hd:=g.lead hp (leads_iff.1 hl)
  rw [atG_low (by omega),show ((f.code.getD p default).d.toNat:Int)=(f.code.getD p default).d by omega]
 ·rfl
theorem movX_step {l:List Rf} {f:Rf} (g:GoodF l f) {gone:Nat → Bool} {k p:Nat} (hp:p < f.code.length) (hg:gone k=true):delX k (movX (goneK gone (k + 1)) (f.code.getD p default))=movX (goneK gone k) (f.code.getD p default):=by
 unfold movX
 by_cases hl:leadsR (f.code.getD p default).op=true
 ·have hd:=g.lead hp (leads_iff.1 hl)
  rw [if_pos hl,if_pos hl]
  unfold delX
  by_cases e:k < (f.code.getD p default).d.toNat
  ·obtain ⟨h1,h2⟩:=atG_step e hg
   rw [if_pos ⟨leads_iff.1 hl,by show (k:Int) < (atG _ _:Nat); omega⟩]
   show ({ (f.code.getD p default) with d:=((atG (goneK gone (k + 1)) (f.code.getD p default).d.toNat:Nat):Int) - 1 }:Rg)=_
   have h6:((atG (goneK gone (k + 1)) (f.code.getD p default).d.toNat:Nat):Int) - 1=(atG (goneK gone k) (f.code.getD p default).d.toNat:Nat):=by omega
   rw [h6]
  ·have h3:atG (goneK gone (k + 1)) (f.code.getD p default).d.toNat=(f.code.getD p default).d.toNat:=atG_low (by omega)
   have h4:atG (goneK gone k) (f.code.getD p default).d.toNat=(f.code.getD p default).d.toNat:=atG_low (by omega)
   rw [h3,h4,if_neg]
   rintro ⟨_,h5⟩
   have h5:(k:Int) < ((f.code.getD p default).d.toNat:Nat):=h5
   omega
 ·rw [if_neg hl,if_neg hl,delX_else (fun h=>hl (leads_iff.2 h))]
theorem without_all {l:List Rf} {f:Rf} (g:GoodF l f) {gone:Nat → Bool} {k:Nat} (h:f.code.length ≤ k):withoutC f.code (goneK gone k)=f.code:=by
 unfold withoutC
 rw [filter_low h]
 refine rg_ext (by simp) fun q=>?_
 by_cases hq:q < f.code.length
 ·simp only [List.getD,List.getElem?_map,List.getElem?_range hq,Option.map_some,Option.getD_some]
  exact movX_low g hq h
 ·rw [List.getD,List.getD,List.getElem?_eq_none (by simp; omega),List.getElem?_eq_none (by omega)]
theorem without_step {l:List Rf} {f:Rf} (g:GoodF l f) {gone:Nat → Bool} {k:Nat} (hk:k < f.code.length) (hg:gone k=true):withoutC f.code (goneK gone k)=delC (withoutC f.code (goneK gone (k + 1))) k:=by
 obtain ⟨T,h1,h2⟩:=filter_split hk hg
 have hT:∀ j,j ∈ List.range k ++ T → j < f.code.length:=by
  intro j hj
  rw [← h2] at hj
  exact List.mem_range.1 (List.mem_filter.1 hj).1
 unfold delC withoutC
 rw [h1,h2]
 have e:(List.map (fun j=>movX (goneK gone (k + 1)) (f.code.getD j default)) (List.range k ++ k :: T)).eraseIdx k=List.map (fun j=>movX (goneK gone (k + 1)) (f.code.getD j default)) (List.range k ++ T):=by
  rw [List.map_append,List.map_cons,List.eraseIdx_append_of_length_le (by simp),List.length_map,List.length_range,Nat.sub_self,List.eraseIdx_cons_zero,← List.map_append]
 rw [e,List.map_map]
 exact List.map_congr_left fun j hj=>(movX_step g (hT j hj) hg).symm
theorem batch {l:List Rf} {f:Rf} (g:GoodF l f) {gone:Nat → Bool} (hg:∀ j,j < f.code.length → gone j=true → rmB f.code j=true) :
  ∀ (q k:Nat),k + q=f.code.length → ∃ n,DelS n f.code (withoutC f.code (goneK gone k))∧∀ j,j < k → rmB f.code j=true → rmB (withoutC f.code (goneK gone k)) j=true:=by
 intro q
 induction q with
 | zero =>
  intro k hk
  rw [without_all g (by omega)]
  exact ⟨0,.zero,fun j _ h=>h⟩
 | succ q ih =>
  intro k hk
  obtain ⟨n,h1,h2⟩:=ih (k + 1) (by omega)
  cases hgk:gone k with
  | false =>
   have e:goneK gone k=goneK gone (k + 1):=by
    funext j
    unfold goneK
    by_cases ej:j=k
    ·subst ej; rw [hgk]; rfl
    ·rw [show decide (k ≤ j)=decide (k + 1 ≤ j) by rw [decide_eq_decide]; omega]
   rw [e]
   exact ⟨n,h1,fun j hj=>h2 j (by omega)⟩
  | true =>
   have h3:=h2 k (by omega) (hg k (by omega) hgk)
   rw [without_step g (by omega) hgk]
   refine ⟨n + 1,h1.snoc h3,fun j hj hr=>?_⟩
   have h4:=h2 j (by omega) hr
   have gw:GoodF l (f.with_ (withoutC f.code (goneK gone (k + 1)))):=DelS.good (f:=f) h1 g
   have h5:rmB (delC (withoutC f.code (goneK gone (k + 1))) k) (newP k j)=true:=del_keep gw h3 h4 (by omega)
   rw [show newP k j=j by unfold newP; rw [if_pos (by omega)]] at h5
   exact h5
theorem without_del {l:List Rf} {f:Rf} (g:GoodF l f):∃ n,DelS n f.code (withoutC f.code (rmB f.code)):=by
 obtain ⟨n,h,_⟩:=batch g (gone:=rmB f.code) (fun j _ h=>h) f.code.length 0 (by omega)
 have e:goneK (rmB f.code) 0=rmB f.code:=by
  funext j
  unfold goneK
  rw [decide_eq_true (Nat.zero_le _),Bool.and_true]
 rw [e] at h
 exact ⟨n,h⟩
theorem LiveI.pure {c:List Rg} {r:Int} {p:Nat} (h:LiveI c r p):LiveI (c.map pureX) r p:=by
 induction h with
 | read h1 h2=>exact .read (by simpa using h1) (by rw [map_at]; exact h2)
 | step h1 h2 h3 _ ih=>exact .step (by simpa using h1) (by rw [map_at]; exact h2) (by rw [map_at]; exact h3) ih
theorem LiveI.unpure {c:List Rg} {r:Int} {p:Nat} (h:LiveI (c.map pureX) r p):LiveI c r p:=by
 induction h with
 | read h1 h2=>rw [map_at] at h2; exact .read (by simpa using h1) h2
 | step h1 h2 h3 _ ih=>rw [map_at] at h2 h3; exact .step (by simpa using h1) h2 h3 ih
theorem liveB_pure (c:List Rg) (p:Nat) (r:Int):liveB (c.map pureX) p r=liveB c p r:=by
 rw [Bool.eq_iff_iff,liveB_iff,liveB_iff]
 unfold LiveO
 rw [map_at]
 exact ⟨fun ⟨q,a,b⟩=>⟨q,a,b.unpure⟩,fun ⟨q,a,b⟩=>⟨q,a,b.pure⟩⟩
theorem rmB_pure (c:List Rg) (i:Nat):rmB (c.map pureX) i=rmB c i:=by
 unfold rmB deadB
 rw [liveB_pure,map_at,List.length_map]
 rfl
theorem tidied_like {c d:List Rg} (h:c.map pureX=d.map pureX) (ht:Tidied c):Tidied d:=fun i=>by rw [← rmB_pure,← h,rmB_pure]; exact ht i
theorem tidy_again {l m:List Rf} (h0:validR l=0) (hm:LikeR m (tidyL l)):validR m=0∧LikeR (tidyL m) m:=by
 have hv:validR m=0:=by rw [validR_like hm]; exact (does_tidy h0).valid
 refine ⟨hv,?_⟩
 obtain ⟨_,_,hg⟩:=validR_parts hv
 have hl:m.length=l.length:=by rw [hm.len]; unfold tidyL; simp
 unfold LikeR
 congr 1
 unfold tidyL
 refine List.ext_getElem (by simp) fun k h1 h2=>?_
 have hk:=hm.at_ k
 have ht:=tidy_tidied h0 (k:=k) (by omega)
 have ht2:Tidied (m.getD k default).code:=tidied_like (pureF_parts hk).2.2.2.2.symm ht
 have:=tidyC_same (hg k h2).1 ht2
 rw [List.getElem_map]
 have e:m.getD k default=m[k]:=by rw [List.getD,List.getElem?_eq_getElem h2]; rfl
 rw [e] at this
 unfold tidyF
 rw [this]
 rfl
end Go.Proofs.YtknaemlnhediaaaGreatDoor.c
