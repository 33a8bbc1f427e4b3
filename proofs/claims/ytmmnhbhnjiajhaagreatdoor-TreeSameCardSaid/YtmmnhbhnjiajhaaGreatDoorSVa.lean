/- The type with a text, as a plain function; reading undoes writing, and writing undoes reading. No condition. The deferred closure of tree.Parse: what it does where the parser has panicked, and where it has not. No condition but the results' cells. Contracts: the type with a text and the text of a type, by the program and by the reference. The table strings.asciiSpace holds what its text lays; texts are no longer than memory reaches. Contracts: the text of any type by the program and by the reference; the type with a text by the reference. The table strings.asciiSpace holds what its text lays (the program alone). Nodes in new memory that may be written; a list of such nodes under construction. No condition. tree.Parse: the program of a source, or what is wrong first: a contract. The table strings.asciiSpace holds what its text lays. The two sources of known(): what reading them comes to. No condition. When two types are equal, and when two lists are, one by one. No condition. known() of the Tree laws. Condition: the package's variables lie as they do at the start. -/
import Derived.Test.YtmmnhbhnjiajhaaGreatDoorSRlex
import Derived.Test.YtmmnhbhnjiajhaaGreatDoorSTs
import Derived.Test.YtmmnhbhnjiajhaaGreatDoorSUu
import Derived.Test.YtmmnhbhnjiajhaaGreatDoorSVg
import Derived.Test.YtmmnhbhnjiajhaaGreatDoorSVd
import Derived.Defers
import Derived.Recover
import Derived.Test.YtmmnhbhnjiajhaaGreatDoorSTt
import Derived.Test.YtmmnhbhnjiajhaaGreatDoorSTty
import Derived.Test.YtmmnhbhnjiajhaaGreatDoorSUq
namespace Go.Proofs.YtmmnhbhnjiajhaaGreatDoor.c
open Go.RowKit
set_option linter.unusedVariables false
set_option maxRecDepth 100000
set_option maxHeartbeats 3200000
set_option linter.unusedSimpArgs false
theorem as_wrong (t:TypeId) (v:Value) (w:World):(Instr.typeAssert (.iface 71 v) t 71 true).run Tryz.prog w=.ok (.tuple #[v,.bool true]) w:=by kernel_rfl
theorem as_nil (t:TypeId) (w:World):(Instr.typeAssert .nilIface t 71 true).run Tryz.prog w=.ok (.tuple #[.int .i64 0,.bool false]) w:=by kernel_rfl
theorem catch_panic (b2 b3 b4:Nat) (k:Nat) (older:List PanicEntry) (w:World) {x2 x3 x4:Value} (k2:Blk w b2 23 #[x2]) (k3:Blk w b3 3 #[x3]) (k4:Blk w b4 24 #[x4]) (h23:b2 ≠ b3) (h24:b2 ≠ b4) (h34:b3 ≠ b4) (h2:x2.oneCell'=true) :
  CallsD Tryz.prog 31 #[.pointer (some ⟨b2,0,none⟩),.pointer (some ⟨b3,0,none⟩),.pointer (some ⟨b4,0,none⟩)] (.panicking ({ v:=.iface 71 (.int .i64 k),recovered:=false } :: older)) w fun e u' w' =>
   e=.returned (.tuple #[])∧u'=.panicking ({ v:=.iface 71 (.int .i64 k),recovered:=true } :: older)∧w'=((w.setCell ⟨b2,0,none⟩ (.slice none 0 0)).setCell ⟨b3,0,none⟩ (.int .i64 k)).setCell ⟨b4,0,none⟩ (.int .i64 2):=by
 have c2:w.cell? ⟨b2,0,none⟩=some x2:=k2.cell 0
 have c3:w.cell? ⟨b3,0,none⟩=some x3:=k3.cell 0
 have c4:w.cell? ⟨b4,0,none⟩=some x4:=k4.cell 0
 have z2:=k2.frozen
 have z3:=k3.frozen
 have z4:=k4.frozen
 refine callsD_of_wpS Tryz.func31 rfl fun c₀ cs hu=>?_
 apply wpS_seq
 apply wpS_region
 simp [wpOpsS,go_sem,recoverD,hu,Tryz.ntmps31,Exit.thenS]
 have hta:=fun t=>as_wrong t (.int .i64 k) w
 refine wpS_of_wp ?_
 simp only [Array.replicate_succ,Array.replicate_zero,List.push_toArray,List.append_toArray,List.nil_append,List.cons_append,List.setIfInBounds_toArray,List.set]
 go_wp2_with fail
 simp [bodyPostS,results,Tryz.results31,hu]
theorem catch_idle (b2 b3 b4:Nat) (w:World) :
  CallsD Tryz.prog 31 #[.pointer (some ⟨b2,0,none⟩),.pointer (some ⟨b3,0,none⟩),.pointer (some ⟨b4,0,none⟩)] .returning w fun e u' w'=>e=.returned (.tuple #[])∧u'=.returning∧w'=w:=by
 refine callsD_of_wpS Tryz.func31 rfl fun c₀ cs hu=>?_
 apply wpS_seq
 apply wpS_region
 simp [wpOpsS,go_sem,recoverD,hu,Tryz.ntmps31,Exit.thenS]
 have hta:=fun t=>as_nil t w
 refine wpS_of_wp ?_
 simp only [Array.replicate_succ,Array.replicate_zero,List.push_toArray,List.append_toArray,List.nil_append,List.cons_append,List.setIfInBounds_toArray,List.set]
 go_wp2_with fail
 cases c₀
 simp_all [bodyPostS,results,Tryz.results31]
theorem setCell_sz (w:World) (p:Addr) (u:Value):(w.setCell p u).heap.size=w.heap.size:=by simp [World.setCell]
def fz (lo:Nat) (w:World) (i:Nat):Prop:=lo ≤ i∧∃ t cs,Blk w i t cs
theorem fz.same {lo lo' i:Nat} {w w':World} (h:fz lo w i) (e:w'.heap[i]?=w.heap[i]?) (hl:lo' ≤ lo):fz lo' w' i:=by
 obtain ⟨h1,t,cs,h2⟩:=h
 exact ⟨Nat.le_trans hl h1,t,cs,e.trans h2⟩
theorem fz.of {lo i:Nat} {w:World} {t:TypeId} {cs:Array Value} (h:Blk w i t cs) (hl:lo ≤ i):fz lo w i:=⟨hl,t,cs,h⟩
theorem Ext.fz_le {lo lo':Nat} {w w':World} (x:Ext w w') (hl:lo' ≤ lo):(vp (fz lo w) w).le (vp (fz lo' w') w'):=vp_le fun b hb hlt=>⟨hb.same (x.out.block b hlt) hl,x.out.block b hlt⟩
theorem Sl.fx {lo lo' k:Nat} {w w':World} {v:Value} {x:Nd} (h:Sl (vp (fz lo w) w) v x k) (p:Ext w w') (hl:lo' ≤ lo):Sl (vp (fz lo' w') w') v x k:=h.mono (p.fz_le hl)
theorem Nv.fx {lo lo' k:Nat} {w w':World} {cs:Array Value} {x:Nd} (h:Nv (vp (fz lo w) w) k x cs) (p:Ext w w') (hl:lo' ≤ lo):Nv (vp (fz lo' w') w') k x cs:=h.mono (p.fz_le hl)
def Gz (lo:Nat) (E:TypeId) (k:Nat) (v:Value) (x:Nd) (wr:World):Prop:=∃ xs,wr.ownsRow lo E (szK k) v x.len xs∧Elems (vp (fun i=>fz lo wr i∧v.ownBlock ≠ some i) wr) x k xs
section
variable {lo k m:Nat} {E:TypeId} {v v':Value} {x y:Nd} {wr w2 w':World}
theorem Gz.nil (lo:Nat) (E:TypeId) (k:Nat) (wr:World):Gz lo E k sl0 .nil wr:=⟨[],⟨by simp [Nd.len],.inl ⟨rfl,rfl⟩⟩,rfl⟩
theorem Gz.px (h:Gz lo E k v x wr) (p:Px m wr w2) (hm:m < lo):Gz lo E k v x w2:=by
 obtain ⟨xs,h1,h2⟩:=h
 exact ⟨xs,own_px h1 p hm,h2.mono (vp_le fun b hb hl=>by
  have e:=p.block b hl (by have:=hb.1.1; omega)
  exact ⟨⟨hb.1.same e (Nat.le_refl _),hb.2⟩,e⟩)⟩
theorem Gz.ext (h:Gz lo E k v x wr) (p:Ext wr w2):Gz lo E k v x w2:=by
 obtain ⟨xs,h1,h2⟩:=h
 refine ⟨xs,⟨h1.1,h1.2.imp id ?_⟩,h2.mono (vp_le fun b hb hl=>⟨⟨hb.1.same (p.out.block b hl) (Nat.le_refl _),hb.2⟩,p.out.block b hl⟩)⟩
 rintro ⟨g,cap,cur,e,hb,hg,r⟩
 refine ⟨g,cap,cur,e,hb,?_,r⟩
 have hlt:g < wr.heap.size:=Blk.lt (t:=E) (cs:=cur) hg
 exact (p.out.block g hlt).trans hg
theorem Gz.sl (h:Gz lo E k v x wr):Sl (vp (fz lo wr) wr) v x k:=by
 obtain ⟨xs,h1,h2⟩:=h
 refine Sl.own h1 (h2.mono (vp_le fun b hb _=>⟨hb.1,rfl⟩)) ?_ rfl
 intro g hg
 rcases h1.2 with ⟨rfl,_⟩ | ⟨g',cap,cur,rfl,hb,hg',_⟩
 ·cases hg
 ·cases hg; exact ⟨hb,E,cur,hg'⟩
theorem Gz.own_lt (h:Gz lo E k v x wr) {g:Nat} (hg:v.ownBlock=some g):lo ≤ g∧g < wr.heap.size:=by
 obtain ⟨xs,h1,h2⟩:=h
 rcases h1.2 with ⟨rfl,_⟩ | ⟨g',cap,cur,rfl,hb,hg',_⟩
 ·cases hg
 ·obtain rfl:g'=g:=Option.some.inj hg
  exact ⟨hb,Blk.lt (t:=E) (cs:=cur) hg'⟩
theorem Gz.one (h:Gz lo E k v x wr):v.oneCell'=true:=by
 obtain ⟨xs,h1,h2⟩:=h
 rcases h1.2 with ⟨rfl,_⟩ | ⟨g',cap,cur,rfl,_⟩ <;> rfl
theorem Gz.grown {z:Nat} {cs:Array Value} {xs:List Value} (h1:w2.ownsRow lo E (szK k) v x.len xs) (h2:Elems (vp (fun i=>fz lo w2 i∧v.ownBlock ≠ some i) w2) x k xs) (hn:Nv (vp (fz z w2) w2) k y cs) (hz:lo ≤ z) (hv:∀ g,v.ownBlock=some g → g < z)
  (r1:w'.ownsRow lo E (szK k) v' (x.len + 1) (xs ++ cs.toList)) (r2:w2.grownBy w' v.ownBlock) (r3:v'.ownBlock=v.ownBlock ∨ v'.ownBlock=some w2.heap.size):Gz lo E k v' (x.app y) w':=by
 refine ⟨xs ++ cs.toList,?_,Elems.app x y k _ _ (h2.mono (vp_le fun b hb hl=>?_)) (hn.1.mono (vp_le fun b hb hl=>?_))⟩
 ·rw [app_len,hn.2]; exact r1
 ·have e:=r2.block b hl fun e=>hb.2 e.symm
  refine ⟨⟨hb.1.same e (Nat.le_refl _),?_⟩,e⟩
  rcases r3 with r3 | r3 <;> rw [r3]
  ·exact hb.2
  ·intro e; cases e; omega
 ·have hb1:=hb.1
  have e:=r2.block b hl fun e=>by have:=hv b e.symm; omega
  refine ⟨⟨hb.same e hz,?_⟩,e⟩
  rcases r3 with r3 | r3 <;> rw [r3]
  ·intro e; have:=hv b e; omega
  ·intro e; cases e; omega
end
noncomputable def prsL (L:List Tok):Nd × Nat × Int:=match prgS L .nil 0 with
 | some (.ok x _)=>if largeS x=true then (.nil,0,3) else (x,L.length,0)
 | some (.bad k)=>(.nil,k,2)
 | none=>(.nil,0,0)
noncomputable def parsS (s:ByteArray):Nd × Nat × Int:=if (lexS s).2.2=0 then prsL (lexS s).1 else (.nil,(lexS s).2.1,(lexS s).2.2)
theorem prs_res {tmps:Array Value} {W:World} {b2 b3 b4:Nat} {v1 v2 v3:Value} (h2:tmps.getD 2 undef=.pointer (some ⟨b2,0,none⟩)) (h3:tmps.getD 3 undef=.pointer (some ⟨b3,0,none⟩)) (h4:tmps.getD 4 undef=.pointer (some ⟨b4,0,none⟩))
  (k2:Blk W b2 23 #[v1]) (k3:Blk W b3 3 #[v2]) (k4:Blk W b4 24 #[v3]):(results Tryz.f11 tmps).run Tryz.prog W=.ok (.tuple #[v1,v2,v3]) W:=by
 simp only [Array.getD_eq_getD_getElem?] at h2 h3 h4
 have c2:=k2.cell 0
 have c3:=k3.cell 0
 have c4:=k4.cell 0
 simp only [results,Tryz.results11]
 simp [go_sem,h2,h3,h4,c2,c3,c4]
structure Ps3 (w:World) (b:Nat) (p q r:Value) (W:World):Prop where
 x:Ext w W
 b2:Blk W b 23 #[p]
 b3:Blk W (b + 1) 3 #[q]
 b4:Blk W (b + 1 + 1) 24 #[r]
section
variable {w W W':World} {b:Nat} {x y z:Value}
theorem Ps3.ext (h:Ps3 w b x y z W) (e:Ext W W'):Ps3 w b x y z W':=⟨h.x.trans e,h.b2.ext e,h.b3.ext e,h.b4.ext e⟩
theorem Ps3.px {m:Nat} (h:Ps3 w b x y z W) (e:Px m W W') (hm:b + 1 + 1 < m) (hw:w.heap.size ≤ m):Ps3 w b x y z W':=⟨Px.base h.x hw e,h.b2.px e (by omega),h.b3.px e (by omega),h.b4.px e (by omega)⟩
theorem Ps3.s2 (h:Ps3 w b x y z W) (hw:w.heap.size ≤ b) (u:Value):Ps3 w b u y z (W.setCell ⟨b,0,none⟩ u):=⟨h.x.setCell (p:=⟨b,0,none⟩) hw u,h.b2.set_ 0 u,h.b3.far (p:=⟨b,0,none⟩) (by show b + 1 ≠ b; omega) u,h.b4.far (p:=⟨b,0,none⟩) (by show b + 1 + 1 ≠ b; omega) u⟩
theorem Ps3.s3 (h:Ps3 w b x y z W) (hw:w.heap.size ≤ b) (u:Value):Ps3 w b x u z (W.setCell ⟨b + 1,0,none⟩ u):=⟨h.x.setCell (p:=⟨b + 1,0,none⟩) (Nat.le_succ_of_le hw) u,h.b2.far (p:=⟨b + 1,0,none⟩) (by show b ≠ b + 1; omega) u,h.b3.set_ 0 u,h.b4.far (p:=⟨b + 1,0,none⟩) (by show b + 1 + 1 ≠ b + 1; omega) u⟩
theorem Ps3.s4 (h:Ps3 w b x y z W) (hw:w.heap.size ≤ b) (u:Value):Ps3 w b x y u (W.setCell ⟨b + 1 + 1,0,none⟩ u):=⟨h.x.setCell (p:=⟨b + 1 + 1,0,none⟩) (Nat.le_succ_of_le (Nat.le_succ_of_le hw)) u,h.b2.far (p:=⟨b + 1 + 1,0,none⟩) (by show b ≠ b + 1 + 1; omega) u,h.b3.far (p:=⟨b + 1 + 1,0,none⟩) (by show b + 1 ≠ b + 1 + 1; omega) u,h.b4.set_ 0 u⟩
theorem Ps3.init (w:World):Ps3 w w.heap.size (.slice none 0 0) (.int .i64 0) (.int .i64 0) (((w.alloc (.cells #[.slice none 0 0] 23)).alloc (.cells #[.int .i64 0] 3)).alloc (.cells #[.int .i64 0] 24)):=by
 have q2:=Blk.new (w.alloc (.cells #[.slice none 0 0] 23)) 3 #[.int .i64 0]
 have q3:=Blk.new ((w.alloc (.cells #[.slice none 0 0] 23)).alloc (.cells #[.int .i64 0] 3)) 24 #[.int .i64 0]
 simp only [size_alloc] at q2 q3
 exact ⟨exA,((Blk.new w _ _).alloc _).alloc _,q2.alloc _,q3⟩
theorem Ps3.facts (h:Ps3 w b x y z W):W.cell? ⟨b,0,none⟩=some x∧W.cell? ⟨b + 1,0,none⟩=some y∧W.cell? ⟨b + 1 + 1,0,none⟩=some z∧(∀ i,W.frozen? ⟨b,i,none⟩=false)∧(∀ i,W.frozen? ⟨b + 1,i,none⟩=false)∧(∀ i,W.frozen? ⟨b + 1 + 1,i,none⟩=false)∧b + 1 + 1 < W.heap.size :=
 ⟨h.b2.cell 0,h.b3.cell 0,h.b4.cell 0,h.b2.frozen,h.b3.frozen,h.b4.frozen,h.b4.lt⟩
end
theorem prs_all (s:ByteArray) (w:World) (g:Laid w):Calls Tryz.prog 11 #[.string s] w fun e w'=>∃ v,e=.returned (.tuple #[v,.int .i64 (parsS s).2.1,.int .i64 (parsS s).2.2])∧Sl (vp (w.heap.size ≤ ·) w') v (parsS s).1 5∧Ext w w'∧(parsS s).1.sz ≤ 1000∧((parsS s).2.2=0 → (parsS s).2.1=(lexS s).1.length)∧((parsS s).2.2=2 → (parsS s).2.1 ≤ (lexS s).1.length ∨ (lexS s).2.2 ≠ 0):=by
 have HLX:=Lib.hid fun w1=>lex_any s w1
 obtain ⟨L,n,e,hls⟩:∃ L n e,lexS s=(L,n,e):=⟨_,_,_,rfl⟩
 rw [hls] at HLX
 have HLS:=Lib.hid hls
 have P0:=Lib.hid (Ps3.init w)
 have HG:=Lib.hid g
 clear hls g
 obtain ⟨r1,r2,r3,hr⟩:∃ a b c,parsS s=(a,b,c):=⟨_,_,_,rfl⟩
 rw [hr]
 have HR:=Lib.hid hr
 clear hr
 have hmf:∀ (fn:Fn) (first cap:Array Value) (w:World),(Instr.makeFunc fn first cap).run Tryz.prog w=.ok (.func fn first cap) w:=fun _ _ _ _=>rfl
 by_cases he:e=0
 ·subst he
  have hok:=lexS_ok HLS.out
  have HOK:=Lib.hid hok
  have HRL:Hid ((r1,r2,r3)=prsL L):=by
   have h9:=HR.out
   unfold parsS at h9
   rw [HLS.out] at h9
   simp only [if_true] at h9
   exact h9.symm
  clear hok
  go_enter_defers Tryz.func11,Tryz.ntmps11
  go_upto_region 2 with (first
   | (go_at_call 15; refine (HLX.out _).mono ?_; rintro r w1 ⟨v,rfl,ho,x1⟩; have P1:=Lib.hid (P0.out.ext x1); have HO:=Lib.hid ho; clear ho; obtain ⟨c2,c3,c4,z2,z3,z4,hz⟩:=P1.out.facts))
  refine nmW fun w2 hw2=>?_
  have P2:Hid (Ps3 w w.heap.size (.slice none 0 0) (.int .i64 0) (.int .i64 0) w2):=by rw [← hw2]; exact P1.out.s4 (Nat.le_refl _) _
  have O2:=HO.out.kept (grownBy_setCell' w1 (w.heap.size + 1 + 1) (.int .i64 0)) (.inr (Boxed.not_row P1.out.b4 (by decide) HO.out).symm)
  rw [hw2] at O2
  obtain ⟨A,cap,rfl,htk⟩:=own_tok O2
  have HTK:=Lib.hid htk
  generalize hb:w.heap.size=b at P2 ⊢
  have hwb:w.heap.size ≤ b:=Nat.le_of_eq hb
  clear hb hw2 O2 htk HO P1 c2 c3 c4 z2 z3 z4 hz x1 P0 HLX
  obtain ⟨c2,c3,c4,z2,z3,z4,hz⟩:=P2.out.facts
  obtain ⟨C,hC1,hC2,hC3,hC4⟩:∃ C:Cx,C.m=w2.heap.size∧C.L=L∧PS C 0 (w2.alloc (.cells #[.slice A L.length cap,.int .i64 0] 70))∧C.w0=w2 :=
   ⟨⟨w2,w2.heap.size,A,cap,L,Nat.le_refl _,HTK.out,HOK.out.1,HG.out.ext P2.out.x,HOK.out.2.2⟩,rfl,rfl,⟨(Ext.refl w2).alloc _,Nat.zero_le _,Blk.new w2 _ _⟩,rfl⟩
  have HC3:=Lib.hid hC3
  have HPp:Hid (Pp C=.pointer (some ⟨w2.heap.size,0,none⟩)):=by unfold Hid; rw [← hC1]
  have HPG:=Lib.hid (program_any hC3)
  rw [HPp.out,hC2] at HPG
  clear hC3
  have hm1:b + 1 + 1 < C.m:=by rw [hC1]; exact hz
  have hwm:w.heap.size ≤ C.m:=by omega
  go_upto_region 7 with (first
   | (go_at_call 32; refine HPG.out.mono ?_; rintro r w4 (⟨x,c,v4,hg4,rfl,hsl,m4⟩ | ⟨c,hg4,rfl,m4⟩) <;> (have P4:=Lib.hid ((P2.out.ext ((Ext.refl w2).alloc _)).px m4.px hm1 hwm)) <;> (obtain ⟨d2,d3,d4,y2,y3,y4,hz4⟩:=P4.out.facts) <;> (try obtain ⟨A4,n4,k4,rfl,h1c⟩:=hsl.shape)))
  ·refine nmW fun w5 hw5=>?_
   have P5:Hid (Ps3 w b (.slice A4 n4 k4) (.int .i64 0) (.int .i64 0) w5):=by rw [← hw5]; exact P4.out.s2 hwb _
   have hbz:b < (w2.alloc (.cells #[.slice A L.length cap,.int .i64 0] 70)).heap.size:=by simp; omega
   have S5:Hid (Sl (vp (fun i=>b + 1 + 1 < i∧i < w5.heap.size) w5) (.slice A4 n4 k4) x 5):=by
    have hsw:w5.heap.size=w4.heap.size:=by rw [← hw5]; simp [World.setCell]
    refine hsl.mono (vp_le fun i hi hl=>⟨⟨by simp at hi; omega,by rw [hsw]; exact hl⟩,?_⟩)
    rw [← hw5]
    exact Below.heap_setCell _ _ _ _ (show i ≠ b by omega)
   have hxz:x.sz ≤ 1000:=by
    have h9:=prgS_sz (L:=L) L.length .nil 0 (by omega) (by omega) x c hg4.out
    have h8:=m4.ps.le
    rw [hC2] at h8
    have h7:=HOK.out.1
    have h6:=h9.2 h8
    simp only [Nd.sz] at h6
    omega
   have HXZ:=Lib.hid hxz
   have HLG:=Lib.hid (isLarge_any x (Nat.le_trans hxz (by decide)) w5 (.slice A4 n4 k4) _ S5.out (fun i hi=>hi.2))
   have HRX:Hid ((r1,r2,r3)=if largeS x=true then (.nil,0,3) else (x,L.length,0)):=by
    have h9:=HRL.out
    unfold prsL at h9
    rw [hg4.out] at h9
    exact h9
   clear hw5 P4 d2 d3 d4 y2 y3 y4 hz4 hsl m4 hg4 P2 HPG HC3 HRL HTK hxz hbz
   obtain ⟨d2,d3,d4,y2,y3,y4,hz5⟩:=P5.out.facts
   have HD:=Lib.hid y2
   cases hlg:largeS x
   case true =>
    rw [hlg] at HLG HRX
    obtain ⟨rfl,e2⟩:=Prod.mk.inj (HRX.out.trans (if_pos rfl))
    obtain ⟨rfl,rfl⟩:=Prod.mk.inj e2
    go_wp2_with (first
     | (go_at_call 33; refine HLG.out.mono ?_; rintro r w6 ⟨rfl,x6⟩; have P6:=Lib.hid (P5.out.ext x6); have X6:=Lib.hid x6; obtain ⟨f2,f3,f4,u2,u3,u4,hz6⟩:=P6.out.facts))
    refine leaves_cons (f := 31) (args:=#[.pointer (some ⟨b,0,none⟩),.pointer (some ⟨b + 1,0,none⟩),.pointer (some ⟨b + 1 + 1,0,none⟩)]) (by simp) (by simp [go_sem]) ?_
    refine (catch_idle _ _ _ _).mono ?_
    rintro e u' w'' ⟨rfl,rfl,rfl⟩
    have P7:=((P6.out.s2 hwb (.slice none 0 0)).s3 hwb (.int .i64 0)).s4 hwb (.int .i64 3)
    exact ⟨_,prs_res rfl rfl rfl P7.b2 P7.b3 P7.b4,_,rfl,Sl.nil _ _ _ _,P7.x,Nat.zero_le _,fun h=>absurd h (by decide),fun h=>absurd h (by decide)⟩
   case false =>
    rw [hlg] at HLG HRX
    obtain ⟨rfl,e2⟩:=Prod.mk.inj (HRX.out.trans (if_neg Bool.false_ne_true))
    obtain ⟨rfl,rfl⟩:=Prod.mk.inj e2
    go_wp2_with (first
     | (go_at_call 33; refine HLG.out.mono ?_; rintro r w6 ⟨rfl,x6⟩; have P6:=Lib.hid (P5.out.ext x6); have X6:=Lib.hid x6; obtain ⟨f2,f3,f4,u2,u3,u4,hz6⟩:=P6.out.facts))
    refine leaves_cons (f := 31) (args:=#[.pointer (some ⟨b,0,none⟩),.pointer (some ⟨b + 1,0,none⟩),.pointer (some ⟨b + 1 + 1,0,none⟩)]) (by simp) (by simp [go_sem]) ?_
    refine (catch_idle _ _ _ _).mono ?_
    rintro e u' w'' ⟨rfl,rfl,rfl⟩
    have P7:=((P6.out.s2 hwb (.slice A4 n4 k4)).s3 hwb (.int .i64 L.length)).s4 hwb (.int .i64 0)
    refine ⟨_,prs_res rfl rfl rfl P7.b2 P7.b3 P7.b4,_,rfl,?_,P7.x,HXZ.out,by rw [HLS.out]⟩
    refine S5.out.mono (vp_le fun i hi hl=>⟨by omega,?_⟩)
    exact (Below.heap_setCell _ _ _ _ (show i ≠ b + 1 + 1 by omega)).trans ((Below.heap_setCell _ _ _ _ (show i ≠ b + 1 by omega)).trans ((Below.heap_setCell _ _ _ _ (show i ≠ b by omega)).trans (X6.out.out.block i hl)))
  ·have hcl:c ≤ L.length:=by have h8:=m4.ps.le; rw [hC2] at h8; exact h8
   have HRX:Hid ((r1,r2,r3)=(.nil,c,2)):=by
    have h9:=HRL.out
    unfold prsL at h9
    rw [hg4.out] at h9
    exact h9
   obtain ⟨rfl,e2⟩:=Prod.mk.inj HRX.out
   obtain ⟨rfl,rfl⟩:=Prod.mk.inj e2
   refine leaves_cons (f := 31) (args:=#[.pointer (some ⟨b,0,none⟩),.pointer (some ⟨b + 1,0,none⟩),.pointer (some ⟨b + 1 + 1,0,none⟩)]) (by simp) (by simp [go_sem]) ?_
   refine (catch_panic b (b + 1) (b + 1 + 1) r2 [] w4 P4.out.b2 P4.out.b3 P4.out.b4 (by omega) (by omega) (by omega) rfl).mono ?_
   rintro e u' w'' ⟨rfl,rfl,rfl⟩
   have P7:=((P4.out.s2 hwb (.slice none 0 0)).s3 hwb (.int .i64 r2)).s4 hwb (.int .i64 2)
   exact ⟨_,prs_res rfl rfl rfl P7.b2 P7.b3 P7.b4,_,rfl,Sl.nil _ _ _ _,P7.x,Nat.zero_le _,fun h=>absurd h (by decide),fun _=>.inl (by rw [HLS.out]; exact hcl)⟩
 ·have heb:(e == 0)=false:=beq_eq_false_iff_ne.2 he
  have hen:(e != 0)=true:=by simpa using he
  go_enter_defers Tryz.func11,Tryz.ntmps11
  go_upto_region 2 with (first
   | (go_at_call 15; refine (HLX.out _).mono ?_; rintro r w1 ⟨v,rfl,ho,x1⟩; have P1:=Lib.hid (P0.out.ext x1); obtain ⟨c2,c3,c4,z2,z3,z4,hz⟩:=P1.out.facts))
  refine nmW fun w2 hw2=>?_
  have P2:Hid (Ps3 w w.heap.size (.slice none 0 0) (.int .i64 0) (.int .i64 e) w2):=by rw [← hw2]; exact P1.out.s4 (Nat.le_refl _) _
  generalize hb:w.heap.size=b at P2 ⊢
  have hwb:w.heap.size ≤ b:=Nat.le_of_eq hb
  clear hb hw2 ho P1 c2 c3 c4 z2 z3 z4 hz x1 P0 HLX
  obtain ⟨c2,c3,c4,z2,z3,z4,hz⟩:=P2.out.facts
  have HR2:Hid ((r1,r2,r3)=(.nil,n,e)):=by
   have h9:=HR.out
   unfold parsS at h9
   rw [HLS.out] at h9
   simp only [if_neg he] at h9
   exact h9.symm
  go_upto_region 3 with fail
  go_region
  all_goals
   go_wp2_with fail
   obtain ⟨rfl,e2⟩:=Prod.mk.inj HR2.out
   obtain ⟨rfl,rfl⟩:=Prod.mk.inj e2
   have P3:=(((P2.out.s2 hwb (.slice none 0 0)).s3 hwb (.int .i64 r2)).s4 hwb (.int .i64 r3)).ext (Ext.refl _).drew
   exact ⟨_,prs_res rfl rfl rfl P3.b2 P3.b3 P3.b4,_,rfl,Sl.nil _ _ _ _,P3.x,Nat.zero_le _,fun h=>absurd h he,fun _=>.inr (by rw [HLS.out]; exact he)⟩
theorem prs_any (s:ByteArray) (w:World) (g:Laid w):Calls Tryz.prog 11 #[.string s] w fun e w'=>∃ v,e=.returned (.tuple #[v,.int .i64 (parsS s).2.1,.int .i64 (parsS s).2.2])∧Sl (vp (w.heap.size ≤ ·) w') v (parsS s).1 5∧Ext w w' :=
 (prs_all s w g).mono fun e w' h=>by
  obtain ⟨v,h1,h2,h3,_⟩:=h
  exact ⟨v,h1,h2,h3⟩
def ylF (s:ByteArray):Nat → Nat → List Tok
 | 0,_=>[]
 | n + 1,a=>match s.data.toList.drop a with
  | []=>[]
  | c :: r=>if blank c.toNat=true then ylF s n (a + 1)
   else if (fs2 (c :: r)).2=0 then [⟨(fs2 (c :: r)).1,a,⟨#[]⟩⟩]
   else ⟨(fs2 (c :: r)).1,a,s.extract a (a + (fs2 (c :: r)).2)⟩ :: ylF s n (a + (fs2 (c :: r)).2)
theorem yl_F (s:ByteArray):∀ n a,s.size - a ≤ n → yl s a=ylF s n a:=by
 intro n
 induction n with
 | zero=>intro a h; rw [yl_end (by omega)]; rfl
 | succ n ih =>
  intro a h
  by_cases hlt:a < s.size
  ·have hl:a < s.data.toList.length:=by rw [← Lib.size_eq]; exact hlt
   have hd:s.data.toList.drop a=s.data.toList[a] :: s.data.toList.drop (a + 1):=List.drop_eq_getElem_cons hl
   have hc:s.data.toList[a]=s[a]'hlt:=rfl
   rw [hc] at hd
   unfold ylF
   rw [hd]
   simp only
   cases hb:blank (s[a]'hlt).toNat
   case true=>rw [yl_blank hlt hb,if_pos rfl,ih _ (by omega)]
   case false =>
    rw [if_neg (by decide)]
    have hle:=fs2_len (s.data.toList.drop a)
    rw [List.length_drop,← Lib.size_eq] at hle
    by_cases h0:(fs2 (s.data.toList.drop a)).2=0
    ·rw [yl_no hlt hb h0,hd]
     rw [hd] at h0
     rw [if_pos h0]
    ·rw [yl_yes hlt hb h0,ih _ (by omega),hd]
     rw [hd] at h0
     rw [if_neg h0]
  ·rw [yl_end hlt]
   unfold ylF
   rw [List.drop_eq_nil_of_le (by rw [← Lib.size_eq]; omega)]
theorem lexS_of {s:ByteArray} {L:List Tok} (hs:s.size ≤ 4000) (h:ylF s s.size 0=L) (ht:L.all hasT=true) (hl:L.length ≤ 1000):lexS s=(L,L.length,0):=by
 have e:yl s 0=L:=(yl_F s s.size 0 (by omega)).trans h
 have HTY:=toks_yl s s.size 0 [] (by omega) (by omega)
 have ht2:=HTY.1 (by rw [e]; exact List.all_eq_true.1 ht)
 rw [e] at ht2
 unfold lexS
 rw [if_neg (by omega),ht2]
 simp only [if_true]
 rw [if_neg (by simpa using hl)]
 rfl
def s1:ByteArray:=⟨#[99,111,110,115,116,32,97,58,32,117,56,32,61,32,59]⟩
def s2:ByteArray:=⟨#[99,111,110,115,116,32,97,58,32,117,56,32,61,32,49,117,56,59]⟩
def L1:List Tok:=[⟨0,0,⟨#[99,111,110,115,116]⟩⟩,⟨0,6,⟨#[97]⟩⟩,⟨2,7,⟨#[58]⟩⟩,⟨0,9,⟨#[117,56]⟩⟩,⟨2,12,⟨#[61]⟩⟩,⟨2,14,⟨#[59]⟩⟩]
def L2:List Tok:=[⟨0,0,⟨#[99,111,110,115,116]⟩⟩,⟨0,6,⟨#[97]⟩⟩,⟨2,7,⟨#[58]⟩⟩,⟨0,9,⟨#[117,56]⟩⟩,⟨2,12,⟨#[61]⟩⟩,⟨1,14,⟨#[49,117,56]⟩⟩,⟨2,17,⟨#[59]⟩⟩]
theorem lex1:lexS s1=(L1,6,0):=lexS_of (by decide) (by kernel_rfl) (by kernel_rfl) (by decide)
theorem lex2:lexS s2=(L2,7,0):=lexS_of (by decide) (by kernel_rfl) (by kernel_rfl) (by decide)
def tU8:Ty:=⟨2,8,⟨#[]⟩,false,false⟩
def x2:Nd:=.ex 0 tU8 ⟨#[]⟩ 1 .nil .nil .nil
def p2:Nd:=.de false ⟨#[97]⟩ .nil tU8 x2 .nil .nil
theorem thnT_ok {α:Type} {r:Except Nat (α × Nat)} {t:α} {b:Nat} {f:α → Nat → Option Rs} (h:r=.ok (t,b)):thnT r f=f t b:=by subst h; rfl
theorem thn_bd {r:Option Rs} {k:Nat} {f:Nd → Nat → Option Rs} (h:r=some (.bad k)):thn r f=some (.bad k):=by subst h; rfl
theorem thn_yes {r:Option Rs} {x:Nd} {a:Nat} {f:Nd → Nat → Option Rs} (h:r=some (.ok x a)):thn r f=f x a:=by subst h; rfl
theorem wnt_yes {L:List Tok} {a:Nat} {s:ByteArray} {r:Option Rs} (h:tx L a=s):wnt L a s r=r:=if_pos h
theorem nam_yes {L:List Tok} {a:Nat} {r:Option Rs} (h:isW L a=true):nam L a r=r:=if_pos h
theorem dcl1:dclS L1 0=some (.bad 5):=by
 have hg:gram L1 (.lvl 0) 5=some (.bad 5):=gram_iff.2 ⟨12,by kernel_rfl⟩
 have ht:typS L1 3 false false false true false false=.ok (tU8,4):=by kernel_rfl
 unfold dclS cdS
 rw [if_pos (by kernel_rfl),nam_yes (by kernel_rfl),wnt_yes (by kernel_rfl),thnT_ok ht,wnt_yes (by kernel_rfl),thn_bd hg]
theorem dcl2:dclS L2 0=some (.ok p2 7):=by
 have hg:gram L2 (.lvl 0) 5=some (.ok x2 6):=gram_iff.2 ⟨14,by kernel_rfl⟩
 have ht:typS L2 3 false false false true false false=.ok (tU8,4):=by kernel_rfl
 unfold dclS cdS
 rw [if_pos (by kernel_rfl),nam_yes (by kernel_rfl),wnt_yes (by kernel_rfl),thnT_ok ht,wnt_yes (by kernel_rfl),thn_yes hg,wnt_yes (by kernel_rfl)]
 rw [show tx L2 (0 + 1)=⟨#[97]⟩ by kernel_rfl]
 rfl
theorem pars1:parsS s1=(.nil,5,2):=by
 unfold parsS
 rw [lex1]
 show prsL L1=_
 unfold prsL
 rw [prgS_bad (by decide) dcl1]
theorem pars2:parsS s2=(p2,7,0):=by
 unfold parsS
 rw [lex2]
 show prsL L2=_
 unfold prsL
 rw [prgS_ok (by decide) dcl2,prgS_end (by decide)]
 show (if largeS p2=true then _ else _)=_
 rw [if_neg (by rw [show largeS p2=false by kernel_rfl]; decide)]
 rfl
def tyB (t u:Ty):Bool:=t.base == u.base && (t.bits == u.bits && (t.name.toList == u.name.toList && (t.opt == u.opt && t.err == u.err)))
theorem run_ty_eql (t u:Ty) (w:World):(binOp .eql 32 (.agg #[.int .i64 t.base,.int .i64 t.bits,.string t.name,.bool t.opt,.bool t.err]) (.agg #[.int .i64 u.base,.int .i64 u.bits,.string u.name,.bool u.opt,.bool u.err])).run Tryz.prog w=.ok (.bool (tyB t u)) w:=by
 obtain ⟨a,b,n,o,e⟩:=t
 obtain ⟨a2,b2,n2,o2,e2⟩:=u
 go_simp
 unfold tyB
 by_cases h1:a=a2
 ·by_cases h2:b=b2
  ·by_cases h3:n.toList=n2.toList
   ·cases o <;> cases e <;> cases o2 <;> cases e2 <;> simp [h1,h2,h3]
   ·simp [h1,h2,h3]
  ·simp [h1,h2]
 ·simp [h1]
theorem run_ty_neq (t u:Ty) (w:World):(binOp .neq 32 (.agg #[.int .i64 t.base,.int .i64 t.bits,.string t.name,.bool t.opt,.bool t.err]) (.agg #[.int .i64 u.base,.int .i64 u.bits,.string u.name,.bool u.opt,.bool u.err])).run Tryz.prog w=.ok (.bool (!tyB t u)) w:=by
 obtain ⟨a,b,n,o,e⟩:=t
 obtain ⟨a2,b2,n2,o2,e2⟩:=u
 go_simp
 unfold tyB
 by_cases h1:a=a2
 ·by_cases h2:b=b2
  ·by_cases h3:n.toList=n2.toList
   ·cases o <;> cases e <;> cases o2 <;> cases e2 <;> simp [h1,h2,h3]
   ·simp [h1,h2,h3]
  ·simp [h1,h2]
 ·simp [h1]
theorem tyB_self (t:Ty):tyB t t=true:=by unfold tyB; simp
theorem prs_1 (w:World) (g:Laid w):Calls Tryz.prog 11 #[.string ⟨#[99,111,110,115,116,32,97,58,32,117,56,32,61,32,59]⟩] w fun e w'=>∃ v,e=.returned (.tuple #[v,.int .i64 5,.int .i64 2])∧Ext w w':=by
 refine (prs_any s1 w g).mono ?_
 rw [pars1]
 rintro e w' ⟨v,rfl,_,x⟩
 exact ⟨v,rfl,x⟩
theorem prs_2 (w:World) (g:Laid w):Calls Tryz.prog 11 #[.string ⟨#[99,111,110,115,116,32,97,58,32,117,56,32,61,32,49,117,56,59]⟩] w fun e w'=>∃ b o c,e=.returned (.tuple #[.slice (some ⟨b,o,none⟩) 1 c,.int .i64 7,.int .i64 0])∧w'.cell? ⟨b,o + 15,none⟩=some (.int .i64 1)∧Ext w w':=by
 refine (prs_any s2 w g).mono ?_
 rw [pars2]
 rintro e w' ⟨v,rfl,hs,x⟩
 obtain ⟨A,c,rfl,l⟩:=hs.lp
 obtain ⟨b,o,cs,rfl,hnv,hc,_⟩:=l.step (show 0 < p2.len by decide)
 obtain ⟨vps,ys,vb,rfl,_,hv,_⟩:=nv_deI (show Nv _ 5 (.de false ⟨#[97]⟩ .nil tU8 x2 .nil .nil) _ from hnv)
 obtain ⟨va,vc,rfl,_,_⟩:=nv_exI hv
 rw [Nat.zero_mul,Nat.add_zero] at hc
 have q:=(vp_some (hc 15 (.int .i64 1) (by simp [p2,x2]))).2
 exact ⟨b,o,c,rfl,q,x⟩
theorem known_any (w:World) (g:Laid w):Calls Tryz.prog 10 #[] w fun e w'=>e=.returned (.bool true)∧Ext w w':=by
 have HZ:Hid ((Tryz.prog.info? 38).map (·.size)=some 19):=by unfold Hid; kernel_rfl
 have K1:=Lib.hid (prs_1 w g)
 have K2:=Lib.hid fun w1 (x:Ext w w1)=>prs_2 w1 (g.ext x)
 clear g
 go_enter Tryz.func10,Tryz.ntmps10
 go_wp2_with (first
  | (go_at_call 11; (with_reducible show Calls _ _ #[.string ⟨#[99,111,110,115,116,32,97,58,32,117,56,32,61,32,59]⟩] _ _); refine K1.out.mono ?_; rintro r w1 ⟨v,rfl,x1⟩; have X1:=Lib.hid x1)
  | (go_at_call 11; (with_reducible show Calls _ _ #[.string ⟨#[99,111,110,115,116,32,97,58,32,117,56,32,61,32,49,117,56,59]⟩] _ _); refine (K2.out _ X1.out).mono ?_; rintro r w2 ⟨b,o,c,rfl,hc,x2⟩))
 all_goals
  go_ret
  exact ⟨ret_bool (by simp),exA⟩
end Go.Proofs.YtmmnhbhnjiajhaaGreatDoor.c
