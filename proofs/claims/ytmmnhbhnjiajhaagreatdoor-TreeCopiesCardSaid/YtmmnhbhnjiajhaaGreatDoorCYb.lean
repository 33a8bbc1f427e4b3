/- Nodes in new memory that may be written; a list of such nodes under construction. No condition. Programs in memory whose numbers and names are changed keep their form. No condition. -/
import Derived.Test.YtmmnhbhnjiajhaaGreatDoorCUu
namespace Go.Proofs.YtmmnhbhnjiajhaaGreatDoor.c
open Go.RowKit
set_option linter.unusedVariables false
set_option linter.unusedSimpArgs false
theorem setCell_sz (w:World) (p:Addr) (u:Value):(w.setCell p u).heap.size=w.heap.size:=by simp [World.setCell]
def fz (lo:Nat) (w:World) (i:Nat):Prop:=lo ≤ i∧∃ t cs,Blk w i t cs
theorem fz.same {lo lo' i:Nat} {w w':World} (h:fz lo w i) (e:w'.heap[i]?=w.heap[i]?) (hl:lo' ≤ lo):fz lo' w' i:=by
 obtain ⟨h1,t,cs,h2⟩:=h
 exact ⟨Nat.le_trans hl h1,t,cs,e.trans h2⟩
theorem fz.of {lo i:Nat} {w:World} {t:TypeId} {cs:Array Value} (h:Blk w i t cs) (hl:lo ≤ i):fz lo w i:=⟨hl,t,cs,h⟩
theorem Ext.fz_le {lo lo':Nat} {w w':World} (x:Ext w w') (hl:lo' ≤ lo):(vp (fz lo w) w).le (vp (fz lo' w') w'):=vp_le fun b hb hlt=>⟨hb.same (x.out.block b hlt) hl,x.out.block b hlt⟩
theorem Sl.fx {lo lo' k:Nat} {w w':World} {v:Value} {x:Nd} (h:Sl (vp (fz lo w) w) v x k) (p:Ext w w') (hl:lo' ≤ lo):Sl (vp (fz lo' w') w') v x k:=h.mono (p.fz_le hl)
theorem Nv.fx {lo lo' k:Nat} {w w':World} {cs:Array Value} {x:Nd} (h:Nv (vp (fz lo w) w) k x cs) (p:Ext w w') (hl:lo' ≤ lo):Nv (vp (fz lo' w') w') k x cs:=h.mono (p.fz_le hl)
def Gz (lo:Nat) (E:TypeId) (k:Nat) (v:Value) (x:Nd) (wr:World):Prop:=∃ xs,wr.ownsRow lo E (szK k) v x.len xs∧Elems (vp (fun i=>fz lo wr i∧v.ownBlock ≠ some i) wr) x k xs
section
variable {lo k m:Nat} {E:TypeId} {v v':Value} {x y:Nd} {wr w2 w':World}
theorem Gz.nil (lo:Nat) (E:TypeId) (k:Nat) (wr:World):Gz lo E k sl0 .nil wr:=⟨[],⟨by simp [Nd.len],.inl ⟨rfl,rfl⟩⟩,rfl⟩
theorem Gz.px (h:Gz lo E k v x wr) (p:Px m wr w2) (hm:m < lo):Gz lo E k v x w2:=by
 obtain ⟨xs,h1,h2⟩:=h
 exact ⟨xs,own_px h1 p hm,h2.mono (vp_le fun b hb hl=>by
  have e:=p.block b hl (by have:=hb.1.1; omega)
  exact ⟨⟨hb.1.same e (Nat.le_refl _),hb.2⟩,e⟩)⟩
theorem Gz.ext (h:Gz lo E k v x wr) (p:Ext wr w2):Gz lo E k v x w2:=by
 obtain ⟨xs,h1,h2⟩:=h
 refine ⟨xs,⟨h1.1,h1.2.imp id ?_⟩,h2.mono (vp_le fun b hb hl=>⟨⟨hb.1.same (p.out.block b hl) (Nat.le_refl _),hb.2⟩,p.out.block b hl⟩)⟩
 rintro ⟨g,cap,cur,e,hb,hg,r⟩
 refine ⟨g,cap,cur,e,hb,?_,r⟩
 have hlt:g < wr.heap.size:=Blk.lt (t:=E) (cs:=cur) hg
 exact (p.out.block g hlt).trans hg
theorem Gz.sl (h:Gz lo E k v x wr):Sl (vp (fz lo wr) wr) v x k:=by
 obtain ⟨xs,h1,h2⟩:=h
 refine Sl.own h1 (h2.mono (vp_le fun b hb _=>⟨hb.1,rfl⟩)) ?_ rfl
 intro g hg
 rcases h1.2 with ⟨rfl,_⟩ | ⟨g',cap,cur,rfl,hb,hg',_⟩
 ·cases hg
 ·cases hg; exact ⟨hb,E,cur,hg'⟩
theorem Gz.own_lt (h:Gz lo E k v x wr) {g:Nat} (hg:v.ownBlock=some g):lo ≤ g∧g < wr.heap.size:=by
 obtain ⟨xs,h1,h2⟩:=h
 rcases h1.2 with ⟨rfl,_⟩ | ⟨g',cap,cur,rfl,hb,hg',_⟩
 ·cases hg
 ·obtain rfl:g'=g:=Option.some.inj hg
  exact ⟨hb,Blk.lt (t:=E) (cs:=cur) hg'⟩
theorem Gz.one (h:Gz lo E k v x wr):v.oneCell'=true:=by
 obtain ⟨xs,h1,h2⟩:=h
 rcases h1.2 with ⟨rfl,_⟩ | ⟨g',cap,cur,rfl,_⟩ <;> rfl
theorem Gz.grown {z:Nat} {cs:Array Value} {xs:List Value} (h1:w2.ownsRow lo E (szK k) v x.len xs) (h2:Elems (vp (fun i=>fz lo w2 i∧v.ownBlock ≠ some i) w2) x k xs) (hn:Nv (vp (fz z w2) w2) k y cs) (hz:lo ≤ z) (hv:∀ g,v.ownBlock=some g → g < z)
  (r1:w'.ownsRow lo E (szK k) v' (x.len + 1) (xs ++ cs.toList)) (r2:w2.grownBy w' v.ownBlock) (r3:v'.ownBlock=v.ownBlock ∨ v'.ownBlock=some w2.heap.size):Gz lo E k v' (x.app y) w':=by
 refine ⟨xs ++ cs.toList,?_,Elems.app x y k _ _ (h2.mono (vp_le fun b hb hl=>?_)) (hn.1.mono (vp_le fun b hb hl=>?_))⟩
 ·rw [app_len,hn.2]; exact r1
 ·have e:=r2.block b hl fun e=>hb.2 e.symm
  refine ⟨⟨hb.1.same e (Nat.le_refl _),?_⟩,e⟩
  rcases r3 with r3 | r3 <;> rw [r3]
  ·exact hb.2
  ·intro e; cases e; omega
 ·have hb1:=hb.1
  have e:=r2.block b hl fun e=>by have:=hv b e.symm; omega
  refine ⟨⟨hb.same e hz,?_⟩,e⟩
  rcases r3 with r3 | r3 <;> rw [r3]
  ·intro e; have:=hv b e; omega
  ·intro e; cases e; omega
end
def KV (v v':Value):Prop:=v'=v ∨ (∃ a b,v=.int .i64 a∧v'=.int .i64 b) ∨ ∃ s t,v=.string s∧v'=.string t
theorem KV.refl (v:Value):KV v v:=.inl rfl
inductive KL:List Value → List Value → Prop where
 | nil:KL [] []
 | cons {v v':Value} {l l':List Value}:KV v v' → KL l l' → KL (v :: l) (v' :: l')
theorem KV.sl {A:Option Addr} {n c:Nat} {v':Value} (h:KV (.slice A n c) v'):v'=.slice A n c:=by
 rcases h with h | ⟨a,b,h,_⟩ | ⟨s,t,h,_⟩
 ·exact h
 ·cases h
 ·cases h
theorem KV.num {a:Int} {v':Value} (h:KV (.int .i64 a) v'):∃ b,v'=.int .i64 b:=by
 rcases h with h | ⟨a,b,_,h⟩ | ⟨s,t,h,_⟩
 ·exact ⟨_,h⟩
 ·exact ⟨_,h⟩
 ·cases h
theorem KV.text {a:ByteArray} {v':Value} (h:KV (.string a) v'):∃ b,v'=.string b:=by
 rcases h with h | ⟨a,b,h,_⟩ | ⟨s,t,_,h⟩
 ·exact ⟨_,h⟩
 ·cases h
 ·exact ⟨_,h⟩
theorem KV.flag {a:Bool} {v':Value} (h:KV (.bool a) v'):v'=.bool a:=by
 rcases h with h | ⟨a,b,h,_⟩ | ⟨s,t,h,_⟩
 ·exact h
 ·cases h
 ·cases h
def VK (V V':Vw):Prop:=∀ b o v,V b o=some v → ∃ v',V' b o=some v'∧KV v v'
def tak (V:Vw) (b o:Nat):Nat → List Value
 | 0=>[]
 | n + 1=>(V b o).getD default :: tak V b (o + 1) n
theorem tak_kl {V V':Vw} (hV:VK V V') (b:Nat):∀ (xs:List Value) (o:Nat),(∀ i v,xs[i]?=some v → V b (o + i)=some v) → KL xs (tak V' b o xs.length)∧∀ i v,(tak V' b o xs.length)[i]?=some v → V' b (o + i)=some v
 | [],o,_=>⟨.nil,fun i v h=>by simp [tak] at h⟩
 | x :: xs,o,h=>by
  obtain ⟨v',h1,h2⟩:=hV b o x (h 0 x rfl)
  obtain ⟨i1,i2⟩:=tak_kl hV b xs (o + 1) fun i v hv=>by
   have:=h (i + 1) v (by simpa using hv)
   rwa [show o + (i + 1)=o + 1 + i by omega] at this
  have e:tak V' b o (x :: xs).length=v' :: tak V' b (o + 1) xs.length:=by
   rw [List.length_cons,tak,h1]
   rfl
  rw [e]
  refine ⟨.cons h2 i1,fun i v hv=>?_⟩
  cases i with
  | zero =>
   obtain rfl:v'=v:=by simpa using hv
   exact h1
  | succ i =>
   rw [show o + (i + 1)=o + 1 + i by omega]
   exact i2 i v (by simpa using hv)
theorem SlW.kv {V V':Vw} (hV:VK V V') {v:Value} {n k:Nat} {E:List Value → Prop} (he:∀ xs xs',E xs → KL xs xs' → ∃ x':Nd,x'.len=n∧Elems V' x' k xs') (s:SlW V v n E):∃ x':Nd,x'.len=n∧Sl V' v x' k:=by
 obtain ⟨A,c,xs,e,hr,hx⟩:=s
 by_cases hn:xs=[]
 ·subst hn
  obtain ⟨x',h1,h2⟩:=he [] [] hx .nil
  exact ⟨x',h1,A,c,[],by rw [e,h1],fun h=>absurd rfl h,h2⟩
 ·obtain ⟨b,o,eA,hc⟩:=hr hn
  obtain ⟨i1,i2⟩:=tak_kl hV b xs o hc
  obtain ⟨x',h1,h2⟩:=he _ _ hx i1
  exact ⟨x',h1,A,c,_,by rw [e,h1],fun _=>⟨b,o,eA,i2⟩,h2⟩
theorem SlW.form {V:Vw} {v:Value} {n:Nat} {E:List Value → Prop} (s:SlW V v n E):∃ A c,v=.slice A n c:=by
 obtain ⟨A,c,xs,e,_⟩:=s
 exact ⟨A,c,e⟩
theorem SlW.same {V:Vw} {v v':Value} {n:Nat} {E:List Value → Prop} (s:SlW V v n E) (h:KV v v'):v'=v:=by
 obtain ⟨A,c,rfl⟩:=s.form
 exact h.sl
theorem Elems.kv {V V':Vw} (hV:VK V V'):∀ (x:Nd) (k:Nat) (xs xs':List Value),Elems V x k xs → KL xs xs' → ∃ x':Nd,x'.len=x.len∧Elems V' x' k xs'
 | .nil,k,xs,xs',h,hk=>by
  obtain rfl:xs=[]:=h
  cases hk
  exact ⟨.nil,rfl,rfl⟩
 | .ex op ty nm n a b tl,k,xs,xs',⟨hk,va,vb,r,e,h1,h2,h3⟩,hl=>by
  subst e
  simp only [List.cons_append,List.nil_append] at hl
  rcases hl with _ | ⟨q0,_ | ⟨q1,_ | ⟨q2,_ | ⟨q3,_ | ⟨q4,_ | ⟨q5,_ | ⟨q6,_ | ⟨q7,_ | ⟨q8,_ | ⟨q9,hl⟩⟩⟩⟩⟩⟩⟩⟩⟩⟩
  obtain ⟨a0,rfl⟩:=q0.num
  obtain ⟨a1,rfl⟩:=q1.num
  obtain ⟨a2,rfl⟩:=q2.num
  obtain ⟨a3,rfl⟩:=q3.text
  obtain rfl:=q4.flag
  obtain rfl:=q5.flag
  obtain ⟨a6,rfl⟩:=q6.text
  obtain ⟨a7,rfl⟩:=q7.num
  obtain rfl:=h1.same q8
  obtain rfl:=h2.same q9
  obtain ⟨y,l1,s1⟩:=h1.kv hV (k:=0) fun xs xs' he hl=>Elems.kv hV a 0 xs xs' he hl
  obtain ⟨z,l2,s2⟩:=h2.kv hV (k:=1) fun xs xs' he hl=>Elems.kv hV b 1 xs xs' he hl
  obtain ⟨t,l3,s3⟩:=Elems.kv hV tl 0 _ _ h3 hl
  exact ⟨.ex a0 ⟨a1,a2,a3,ty.opt,ty.err⟩ a6 a7 y z t,by rw [Nd.len,Nd.len,l3],hk,_,_,_,rfl,s1,s2,s3⟩
 | .st op nm ty es bs cs tl,k,xs,xs',⟨hk,va,vb,vc,r,e,h1,h2,h4,h3⟩,hl=>by
  subst e
  simp only [List.cons_append,List.nil_append] at hl
  rcases hl with _ | ⟨q0,_ | ⟨q1,_ | ⟨q2,_ | ⟨q3,_ | ⟨q4,_ | ⟨q5,_ | ⟨q6,_ | ⟨q7,_ | ⟨q8,_ | ⟨q9,hl⟩⟩⟩⟩⟩⟩⟩⟩⟩⟩
  obtain ⟨a0,rfl⟩:=q0.num
  obtain ⟨a1,rfl⟩:=q1.text
  obtain ⟨a2,rfl⟩:=q2.num
  obtain ⟨a3,rfl⟩:=q3.num
  obtain ⟨a4,rfl⟩:=q4.text
  obtain rfl:=q5.flag
  obtain rfl:=q6.flag
  obtain rfl:=h1.same q7
  obtain rfl:=h2.same q8
  obtain rfl:=h4.same q9
  obtain ⟨y,l1,s1⟩:=h1.kv hV (k:=0) fun xs xs' he hl=>Elems.kv hV es 0 xs xs' he hl
  obtain ⟨z,l2,s2⟩:=h2.kv hV (k:=2) fun xs xs' he hl=>Elems.kv hV bs 2 xs xs' he hl
  obtain ⟨u,l4,s4⟩:=h4.kv hV (k:=3) fun xs xs' he hl=>Elems.kv hV cs 3 xs xs' he hl
  obtain ⟨t,l3,s3⟩:=Elems.kv hV tl 1 _ _ h3 hl
  exact ⟨.st a0 a1 ⟨a2,a3,a4,ty.opt,ty.err⟩ y z u t,by rw [Nd.len,Nd.len,l3],hk,_,_,_,_,rfl,s1,s2,s4,s3⟩
 | .bl b tl,k,xs,xs',⟨hk,vb,r,e,h1,h3⟩,hl=>by
  subst e
  simp only [List.cons_append,List.nil_append] at hl
  rcases hl with _ | ⟨q0,hl⟩
  obtain rfl:=h1.same q0
  obtain ⟨y,l1,s1⟩:=h1.kv hV (k:=1) fun xs xs' he hl=>Elems.kv hV b 1 xs xs' he hl
  obtain ⟨t,l3,s3⟩:=Elems.kv hV tl 2 _ _ h3 hl
  exact ⟨.bl y t,by rw [Nd.len,Nd.len,l3],hk,_,_,rfl,s1,s3⟩
 | .ca lo hi b tl,k,xs,xs',⟨hk,vb,r,e,h1,h3⟩,hl=>by
  subst e
  simp only [List.cons_append,List.nil_append] at hl
  rcases hl with _ | ⟨q0,_ | ⟨q1,_ | ⟨q2,hl⟩⟩⟩
  obtain ⟨a0,rfl⟩:=q0.num
  obtain ⟨a1,rfl⟩:=q1.num
  obtain rfl:=h1.same q2
  obtain ⟨y,l1,s1⟩:=h1.kv hV (k:=1) fun xs xs' he hl=>Elems.kv hV b 1 xs xs' he hl
  obtain ⟨t,l3,s3⟩:=Elems.kv hV tl 3 _ _ h3 hl
  exact ⟨.ca a0 a1 y t,by rw [Nd.len,Nd.len,l3],hk,_,_,rfl,s1,s3⟩
 | .pa nm ty kn tl,k,xs,xs',⟨hk,r,e,h3⟩,hl=>by
  subst e
  simp only [List.cons_append,List.nil_append] at hl
  rcases hl with _ | ⟨q0,_ | ⟨q1,_ | ⟨q2,_ | ⟨q3,_ | ⟨q4,_ | ⟨q5,_ | ⟨q6,hl⟩⟩⟩⟩⟩⟩⟩
  obtain ⟨a0,rfl⟩:=q0.text
  obtain ⟨a1,rfl⟩:=q1.num
  obtain ⟨a2,rfl⟩:=q2.num
  obtain ⟨a3,rfl⟩:=q3.text
  obtain rfl:=q4.flag
  obtain rfl:=q5.flag
  obtain rfl:=q6.flag
  obtain ⟨t,l3,s3⟩:=Elems.kv hV tl 4 _ _ h3 hl
  exact ⟨.pa a0 ⟨a1,a2,a3,ty.opt,ty.err⟩ kn t,by rw [Nd.len,Nd.len,l3],hk,_,rfl,s3⟩
 | .de fn nm ps ty val b tl,k,xs,xs',⟨hk,vp,ys,vb,r,e,h1,h0,h2,h4,h3⟩,hl=>by
  subst e
  simp only [List.cons_append,List.nil_append,List.append_assoc] at hl
  rcases hl with _ | ⟨q0,_ | ⟨q1,_ | ⟨q2,_ | ⟨q3,_ | ⟨q4,_ | ⟨q5,_ | ⟨q6,_ | ⟨q7,hl⟩⟩⟩⟩⟩⟩⟩⟩
  obtain rfl:=q0.flag
  obtain ⟨a1,rfl⟩:=q1.text
  obtain rfl:=h1.same q2
  obtain ⟨a3,rfl⟩:=q3.num
  obtain ⟨a4,rfl⟩:=q4.num
  obtain ⟨a5,rfl⟩:=q5.text
  obtain rfl:=q6.flag
  obtain rfl:=q7.flag
  have hsp:∀ (ys:List Value) (zs:List Value) (m:List Value),KL (ys ++ zs) m → ∃ ys' zs',m=ys' ++ zs'∧KL ys ys'∧KL zs zs':=fun ys=>by
   induction ys with
   | nil=>exact fun zs m h=>⟨[],m,rfl,.nil,h⟩
   | cons y ys ih =>
    intro zs m h
    cases h with
    | cons h1 h2 =>
     obtain ⟨ys',zs',rfl,i1,i2⟩:=ih _ _ h2
     exact ⟨_ :: ys',zs',rfl,.cons h1 i1,i2⟩
  obtain ⟨ys',zs',rfl,g1,g2⟩:=hsp ys _ _ hl
  rcases g2 with _ | ⟨q8,g2⟩
  obtain rfl:=h4.same q8
  obtain ⟨y,l1,s1⟩:=h1.kv hV (k:=4) fun xs xs' he hl=>Elems.kv hV ps 4 xs xs' he hl
  obtain ⟨v,l0,s0⟩:=Elems.kv hV val 0 _ _ h2 g1
  obtain ⟨z,l4,s4⟩:=h4.kv hV (k:=1) fun xs xs' he hl=>Elems.kv hV b 1 xs xs' he hl
  obtain ⟨t,l3,s3⟩:=Elems.kv hV tl 5 _ _ h3 g2
  exact ⟨.de fn a1 y ⟨a3,a4,a5,ty.opt,ty.err⟩ v z t,by rw [Nd.len,Nd.len,l3],hk,_,ys',_,_,by simp,s1,by rw [l0,h0],s0,s4,s3⟩
theorem Sl.kv {V V':Vw} (hV:VK V V') {v:Value} {x:Nd} {k:Nat} (s:Sl V v x k):∃ x':Nd,x'.len=x.len∧Sl V' v x' k:=SlW.kv hV (fun xs xs' he hl=>Elems.kv hV x k xs xs' he hl) s
theorem VK.set {lo b o:Nat} {w:World} {u v:Value} (h:vp (fz lo w) w b o=some v) (hk:KV v u):VK (vp (fz lo w) w) (vp (fz lo (w.setCell ⟨b,o,none⟩ u)) (w.setCell ⟨b,o,none⟩ u)):=by
 have hf:∀ g,fz lo w g → fz lo (w.setCell ⟨b,o,none⟩ u) g:=fun g hg=>by
  obtain ⟨h1,t,cs,h2⟩:=hg
  by_cases e:g=b
  ·subst e
   exact ⟨h1,t,_,h2.set_ o u⟩
  ·exact ⟨h1,t,cs,h2.far (p:=⟨b,o,none⟩) e u⟩
 intro g i z hz
 obtain ⟨h1,h2⟩:=vp_some hz
 have e:∀ z',(w.setCell ⟨b,o,none⟩ u).cell? ⟨g,i,none⟩=some z' → vp (fz lo (w.setCell ⟨b,o,none⟩ u)) (w.setCell ⟨b,o,none⟩ u) g i=some z':=fun z' hz'=>by
  unfold vp
  rw [if_pos (hf g h1)]
  exact hz'
 by_cases eg:g=b
 ·subst eg
  obtain ⟨_,t,cs,hB⟩:=h1
  have hc:cs[i]?=some z:=(hB.cell i).symm.trans h2
  by_cases ei:i=o
  ·subst ei
   have:z=v:=by
    have:=(vp_some h).2
    rw [h2] at this
    exact Option.some.inj this
   subst this
   refine ⟨u,e u ?_,hk⟩
   rw [(hB.set_ i u).cell]
   have hlt:=(Array.getElem?_eq_some_iff.1 hc).1
   simp [hlt]
  ·refine ⟨z,e z ?_,.inl rfl⟩
   rw [(hB.set_ o u).cell,Array.getElem?_setIfInBounds_ne (fun h=>ei h.symm)]
   exact hc
 ·refine ⟨z,e z ?_,.inl rfl⟩
  obtain ⟨_,t,cs,hB⟩:=h1
  rw [(hB.far (p:=⟨b,o,none⟩) eg u).cell,← hB.cell]
  exact h2
theorem Lp.goto {V:Vw} {A:Option Addr} {n k:Nat} {x:Nd} (l:Lp V A n k 0 x):∀ i,i ≤ n → ∃ r,Lp V A n k i r
 | 0,_=>⟨x,l⟩
 | i + 1,h=>by
  obtain ⟨r,hr⟩:=Lp.goto l i (by omega)
  obtain ⟨_,_,_,_,_,_,h2⟩:=hr.step (by omega)
  exact ⟨_,h2⟩
theorem Sl.nth {V:Vw} {A:Option Addr} {n c k:Nat} {x:Nd} (s:Sl V (.slice A n c) x k) {i:Nat} (h:i < n):∃ b o y cs,A=some ⟨b,o,none⟩∧Nv V k y cs∧∀ j v,cs.toList[j]?=some v → V b (o + i * szK k + j)=some v:=by
 obtain ⟨A',c',e,l⟩:=s.lp
 cases e
 obtain ⟨r,hr⟩:=l.goto i (by omega)
 obtain ⟨b,o,cs,e,h1,h2,_⟩:=hr.step h
 exact ⟨b,o,_,cs,e,h1,h2⟩
end Go.Proofs.YtmmnhbhnjiajhaaGreatDoor.c
