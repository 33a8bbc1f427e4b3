/- Counting a program: contracts of the program's counter, of what is empty and of what is too large. Conditions: the counter lies in a block of its own, the nodes in others. Counting statements, declarations, a program: contracts. Conditions: the counter lies in a block of its own, the nodes in others. Counting declarations; whether a program is too large: contracts. Conditions as for counting. -/
import Derived.Test.YtmmnhbhnjiajhaaGreatDoorSUu
import Derived.Deep.CutRange
import Derived.Deep.LoopGhost
namespace Go.Proofs.YtmmnhbhnjiajhaaGreatDoor.c
open Go.RowKit
set_option linter.unusedVariables false
set_option maxRecDepth 100000
set_option maxHeartbeats 3200000
set_option linter.unusedSimpArgs false
structure Ct where
 st:Int
 ex:Int
 de:Int
 lg:Bool
def ctC (s:Ct):Array Value:=#[.int .i64 s.st,.int .i64 s.ex,.int .i64 s.de,.bool s.lg]
def Ct.x (s:Ct) (d:Nat):Ct:=⟨s.st,wrap64 (s.ex + 1),max s.de d,s.lg⟩
def Ct.s (s:Ct) (d:Nat):Ct:=⟨wrap64 (s.st + 1),s.ex,max s.de d,s.lg⟩
def Ct.big (s:Ct):Ct:=⟨s.st,s.ex,s.de,true⟩
def bgX (op:Int) (n:Nat) (s:Ct) (d:Nat):Bool:=((op == 2 && decide (4 < n)) || decide (300 < s.ex)) || decide (12 < d)
def bgS (n:Nat) (s:Ct) (d:Nat):Bool:=(decide (8 < n) || decide (60 < s.st)) || decide (12 < d)
def cnt:Nd → Nat → Ct → Ct
 | .ex op _ _ _ a b tl,d,s=>cnt tl d (if bgX op a.len (s.x d) d=true then (s.x d).big else cnt b (d + 1) (cnt a (d + 1) (s.x d)))
 | .st _ _ _ es bs cs tl,d,s=>if bgS cs.len (s.s d) d=true then (s.s d).big else cnt tl d (cnt cs (d + 1) (cnt bs (d + 1) (cnt es (d + 1) (s.s d))))
 | .bl b tl,d,s=>cnt tl d (cnt b d s)
 | .ca _ _ b tl,d,s=>cnt tl d (cnt b d s)
 | _,_,s=>s
structure Cs (g:Nat) (s:Ct) (w w':World):Prop where
 blk:Blk w' g 95 (ctC s)
 px:Px g w w'
section
variable {g:Nat} {c t:Ct} {w w1 w2:World}
theorem Cs.self (h:Cs g c w w1):Cs g c w1 w1:=⟨h.blk,Px.refl _ _⟩
theorem Cs.ext (h:Cs g c w w1) (x:Ext w1 w2):Cs g c w w2:=⟨h.blk.ext x,h.px.ext x⟩
theorem Cs.trans (h:Cs g c w w1) (k:Cs g t w1 w2):Cs g t w w2:=⟨k.blk,h.px.trans k.px⟩
theorem Cs.facts (h:Cs g c w w1):g < w1.heap.size∧w1.cell? ⟨g,0,none⟩=some (.int .i64 c.st)∧w1.cell? ⟨g,1,none⟩=some (.int .i64 c.ex)∧w1.cell? ⟨g,2,none⟩=some (.int .i64 c.de)∧w1.cell? ⟨g,3,none⟩=some (.bool c.lg)∧(∀ i,w1.frozen? ⟨g,i,none⟩=false) :=
 ⟨h.blk.lt,h.blk.cell 0,h.blk.cell 1,h.blk.cell 2,h.blk.cell 3,h.blk.frozen⟩
theorem Cs.toX (h:Cs g c w w1) (d:Nat):Cs g (c.x d) w ((w1.setCell ⟨g,1,none⟩ (.int .i64 (wrap64 (c.ex + 1)))).setCell ⟨g,2,none⟩ (.int .i64 (max c.de d))) :=
 ⟨(h.blk.set_ 1 _).set_ 2 _,(h.px.setM 1 _).setM 2 _⟩
theorem Cs.toS (h:Cs g c w w1) (d:Nat):Cs g (c.s d) w ((w1.setCell ⟨g,0,none⟩ (.int .i64 (wrap64 (c.st + 1)))).setCell ⟨g,2,none⟩ (.int .i64 (max c.de d))) :=
 ⟨(h.blk.set_ 0 _).set_ 2 _,(h.px.setM 0 _).setM 2 _⟩
theorem Cs.toB (h:Cs g c w w1):Cs g c.big w (w1.setCell ⟨g,3,none⟩ (.bool true)):=⟨h.blk.set_ 3 _,h.px.setM 3 _⟩
end
theorem vp_px {p:Nat → Prop} {g:Nat} {w w':World} (h:Px g w w') (hp:∀ b,p b → b ≠ g):(vp p w).le (vp p w'):=vp_le fun b hb hl=>⟨hb,h.block b hl (hp b hb)⟩
theorem vp_ext {p:Nat → Prop} {w w':World} (x:Ext w w'):(vp p w).le (vp p w'):=vp_le fun b hb hl=>⟨hb,x.out.block b hl⟩
theorem nmW {P:World → Prop} {w:World} (h:∀ w2,w=w2 → P w2):P w:=h w rfl
theorem newRow (w:World) (t:TypeId) (zs cs:Array Value):Ext w ((w.alloc (.cells zs t)).setRow w.heap.size cs)∧Blk ((w.alloc (.cells zs t)).setRow w.heap.size cs) w.heap.size t cs :=
 ⟨((Ext.refl w).alloc _).setRow (Nat.le_refl _) _,(Blk.new w t zs).row cs⟩
theorem len_sz:∀ x:Nd,x.len ≤ x.sz
 | .nil=>Nat.le_refl _
 | .ex _ _ _ _ _ _ tl=>by have:=len_sz tl; simp only [Nd.len,Nd.sz]; omega
 | .st _ _ _ _ _ _ tl=>by have:=len_sz tl; simp only [Nd.len,Nd.sz]; omega
 | .bl _ tl=>by have:=len_sz tl; simp only [Nd.len,Nd.sz]; omega
 | .ca _ _ _ tl=>by have:=len_sz tl; simp only [Nd.len,Nd.sz]; omega
 | .pa _ _ _ tl=>by have:=len_sz tl; simp only [Nd.len,Nd.sz]; omega
 | .de _ _ _ _ _ _ tl=>by have:=len_sz tl; simp only [Nd.len,Nd.sz]; omega
theorem iof_nat (i:Nat):(intOf (Value.int IntKind.i64 (i:Int))).toNat=i:=Int.toNat_natCast i
theorem iof_succ (i:Nat):(intOf (Value.int IntKind.i64 ((i:Int) + 1))).toNat=i + 1:=Int.toNat_natCast (i + 1)
def CX (n:Nat):Prop:=∀ (x:Nd),x.sz < n → x.len=1 → ∀ (w:World) (g:Nat) (s:Ct) (d:Nat) (D:Int) (cs:Array Value) (p:Nat → Prop),D=(d:Int) → Cs g s w w → Nv (vp p w) 0 x cs → (∀ b,p b → b ≠ g) → d ≤ 13 → Calls Tryz.prog 105 #[.pointer (some ⟨g,0,none⟩),.agg cs,.int .i64 D] w fun e w'=>e=.returned (.tuple #[])∧Cs g (cnt x d s) w w'
def CB (n:Nat):Prop:=∀ (x:Nd),x.sz < n → ∀ (w:World) (g:Nat) (s:Ct) (d:Nat) (D:Int) (v:Value) (p:Nat → Prop),D=(d:Int) → Cs g s w w → Sl (vp p w) v x 1 → (∀ b,p b → b ≠ g) → d ≤ 13 → Calls Tryz.prog 106 #[.pointer (some ⟨g,0,none⟩),v,.int .i64 D] w fun e w'=>e=.returned (.tuple #[])∧Cs g (cnt x d s) w w'
theorem cnt_hd {x:Nd} (h:x=.nil ∨ ∃ o t n k a b r,x=.ex o t n k a b r) (d:Nat) (s:Ct):cnt x d s=cnt x.tl d (cnt x.hd d s):=by
 rcases h with rfl | ⟨o,t,n,k,a,b,r,rfl⟩ <;> simp [cnt,Nd.tl,Nd.hd]
theorem Elems.ex {V:Vw} {x:Nd} {xs:List Value} (h:Elems V x 0 xs):x=.nil ∨ ∃ o t n k a b r,x=.ex o t n k a b r:=by
 cases x with
 | nil=>exact .inl rfl
 | ex o t n k a b r=>exact .inr ⟨_,_,_,_,_,_,_,rfl⟩
 | st=>exact absurd h.1 (by decide)
 | bl=>exact absurd h.1 (by decide)
 | ca=>exact absurd h.1 (by decide)
 | pa=>exact absurd h.1 (by decide)
 | de=>exact absurd h.1 (by decide)
theorem Lp.ex {V:Vw} {A:Option Addr} {n i:Nat} {r:Nd} (l:Lp V A n 0 i r) (d:Nat) (s:Ct):cnt r d s=cnt r.tl d (cnt r.hd d s):=by
 obtain ⟨_,xs,_,_,h⟩:=l
 exact cnt_hd h.ex d s
theorem cx_step {n:Nat} (hn:n ≤ 4611686018427387904) (ihX:CX n) (ihB:CB n):CX (n + 1):=by
 intro x hsz h1 w g s d D cs p hD h hnv hp hd
 subst hD
 have hwd:wrap64 ((d:Int) + 1)=(d:Int) + 1:=IntWalk.wrap64_in _ (by omega)
 obtain rfl | ⟨op,ty,nm,k,a,b,r,rfl⟩:=hnv.1.ex
 ·cases h1
 obtain rfl:r=.nil:=tl_one h1
 obtain ⟨va,vb,rfl,ha,hb⟩:=nv_exI hnv
 have HZ:Hid ((Tryz.prog.info? 36).map (·.size)=some 10):=by unfold Hid; kernel_rfl
 have hsa:a.sz < n:=by simp [Nd.sz] at hsz; omega
 have hsb:b.sz < n:=by simp [Nd.sz] at hsz; omega
 obtain ⟨A,c,rfl,la⟩:=ha.lp
 have hg:g < w.heap.size:=h.blk.lt
 generalize hR:cnt (.ex op ty nm k a b .nil) d s=R
 have E:Hid (R=if bgX op a.len (s.x d) d=true then (s.x d).big else cnt b (d + 1) (cnt a (d + 1) (s.x d))):=hR.symm
 clear hR
 obtain ⟨hgz,f0,f1,f2,f3,hfz⟩:=h.facts
 have S0:=Lib.hid (h.toX d)
 go_enter Tryz.func105,Tryz.ntmps105
 go_upto_region 3 with fail
 generalize hxz:w.heap.size=xz at hg ⊢
 refine nmW fun w2 hw2=>?_
 have B1:Hid (Blk w2 xz 36 #[.int .i64 op,.int .i64 ty.base,.int .i64 ty.bits,.string ty.name,.bool ty.opt,.bool ty.err,.string nm,.int .i64 k,.slice A a.len c,vb]):=by
  rw [← hw2,← hxz]
  have q:=Blk.new ((w.setCell ⟨g,1,none⟩ (.int .i64 (wrap64 (s.ex + 1)))).setCell ⟨g,2,none⟩ (.int .i64 (max s.de d))) 36 #[.int .i64 op,.int .i64 ty.base,.int .i64 ty.bits,.string ty.name,.bool ty.opt,.bool ty.err,.string nm,.int .i64 k,.slice A a.len c,vb]
  rw [show ((w.setCell ⟨g,1,none⟩ (.int .i64 (wrap64 (s.ex + 1)))).setCell ⟨g,2,none⟩ (.int .i64 (max s.de d))).heap.size=w.heap.size by simp [World.setCell]] at q
  exact q
 have S1:Hid (Cs g (s.x d) w w2):=by rw [← hw2]; exact S0.out.ext ((Ext.refl _).alloc _)
 have hb2:Hid (Sl (vp p w2) vb b 1):=hb.mono (vp_px S1.out.px hp)
 have L2:Hid (Lp (vp p w2) A a.len 0 0 a):=la.mono (vp_px S1.out.px hp)
 clear hw2 S0 f0 f1 f2 f3 hfz hgz hnv ha la h hb
 go_cut [43] from 24 to 43 (fun c wx=>c=.bool (bgX op a.len (s.x d) d)∧wx=w2)
 case first =>
  have q0:w2.cell? ⟨xz,0,none⟩=some (.int .i64 op):=B1.out.cell 0
  have q8:w2.cell? ⟨xz,8,none⟩=some (.slice A a.len c):=B1.out.cell 8
  obtain ⟨hgz,f0,f1,f2,f3,hfz⟩:=S1.out.facts
  go_wp2_with fail
  all_goals
   (try (rename op=2=>h2; subst h2))
   go_meet
   exact ⟨congrArg Value.bool (by rw [Bool.eq_iff_iff]; simp only [bgX,Bool.or_eq_true,Bool.and_eq_true,beq_iff_eq,decide_eq_true_eq]; first | omega | (simp; omega)),rfl⟩
 case rest =>
  obtain ⟨rfl,rfl⟩:=hcut
  cases hbg:bgX op a.len (s.x d) d
  case true =>
   obtain ⟨hgz,f0,f1,f2,f3,hfz⟩:=S1.out.facts
   go_wp2_with fail
   refine bodyPost_ret (results_none rfl _ _ _) rfl ?_
   exact ⟨rfl,by rw [E.out,if_pos hbg]; exact S1.out.toB⟩
  case false =>
   have hd2:d ≤ 12:=by simp [bgX] at hbg; omega
   have q8:wc.cell? ⟨xz,8,none⟩=some (.slice A a.len c):=B1.out.cell 8
   go_wp2_with fail
   clear q8
   go_loopw [50] (fun u wr=>∃ (i:Nat) (r:Nd) (s':Ct),u=.int .i64 i∧Hid (Lp (vp p wr) A a.len 0 i r)∧Hid (Cs g s' w wr)∧Hid (Blk wr xz 36 #[.int .i64 op,.int .i64 ty.base,.int .i64 ty.bits,.string ty.name,.bool ty.opt,.bool ty.err,.string nm,.int .i64 k,.slice A a.len c,vb])∧Hid (Sl (vp p wr) vb b 1)∧Hid (cnt r (d + 1) s'=cnt a (d + 1) (s.x d))∧r.sz ≤ a.sz) (fun u _=>a.len - (intOf u).toNat)
   case atStart=>exact ⟨0,a,s.x d,rfl,L2,S1,B1,hb2,rfl,Nat.le_refl _⟩
   case round =>
    clear L2 S1 B1 hb2
    obtain ⟨i,r,s',rfl,L,S,B,hB,hE,hrz⟩:=hrel
    have hal:=len_sz a
    by_cases hlt:i < a.len
    ·obtain ⟨bb,o,ds,rfl,hnv,hc,L'⟩:=L.out.step hlt
     have hltI:(i:Int) < (a.len:Int):=by omega
     have hne:xz ≠ g:=by omega
     have NV:=Lib.hid hnv
     have HC:=Lib.hid hc
     have LS:=Lib.hid L'
     have hrl:0 < r.len:=by have:=L.out.1; omega
     have hE2:=Lib.hid ((L.out.ex (d + 1) s').symm.trans hE.out)
     have hrs:r.hd.sz < n∧r.tl.sz ≤ a.sz:=by have:=hd_sz hrl; omega
     have hwi:wrap64 ((i:Int) + 1)=(i:Int) + 1:=IntWalk.wrap64_in _ (by omega)
     clear hnv hc L' L hE hn hal hrz
     go_wp2_with (first
      | ((with_reducible show wpList _ _ _ (Oper.mk (some 53) (.load 36 (.tmp 52)) _ _ _ _ :: _) _ _); refine wpList_load_mid rfl _ _ rfl _ _ rfl ds.toList _ (fun j v hv=>(vp_some (HC.out j v hv)).2) Tryz.underlying36 rfl (by rw [Array.length_toList,show ds.size=10 from NV.out.size]; exact HZ.out) ?_; rw [Array.toArray_toList])
      | ((with_reducible show wpList _ _ _ (Oper.mk none (.store 36 (.tmp 7) _) _ _ _ _ :: _) _ _); refine wpList_store_row rfl _ _ _ rfl _ rfl _ zEx ds (Blk.new wr _ zEx) rfl NV.out.size NV.out.one (by rw [show ds.size=10 from NV.out.size]; exact HZ.out) ?_; refine nmW fun w3 hw3=>?_
         have x3:Ext wr w3:=by rw [← hw3]; exact (newRow wr _ zEx ds).1
         have K3:Hid (Blk w3 wr.heap.size 36 ds):=by rw [← hw3]; exact (newRow wr _ zEx ds).2
         have S3:=Lib.hid (S.out.ext x3)
         clear hw3)
      | ((with_reducible show wpList _ _ _ (Oper.mk (some 55) (.load 36 (.tmp 7)) _ _ _ _ :: _) _ _); refine wpList_ldb rfl _ _ rfl _ _ ds rfl K3.out _ Tryz.underlying36 rfl (by rw [show ds.size=10 from NV.out.size]; exact HZ.out) ?_)
      | (go_at_call 105; refine (ihX r.hd hrs.1 (hd_len hrl) w3 g s' (d + 1) _ ds p (by omega) S3.out.self (NV.out.mono (vp_px (Px.of x3) hp)) hp (by omega)).mono ?_; rintro e w4 ⟨rfl,S4⟩))
     go_roundw
     case rel=>exact ⟨i + 1,r.tl,_,by rw [hwi]; rfl,LS.out.mono (vp_px (S4.px.trans (Px.refl _ _) |> (Px.of x3).trans) hp),S3.out.trans S4,(B.out.ext x3).px S4.px hne,hB.out.mono (vp_px ((Px.of x3).trans S4.px) hp),hE2.out,hrs.2⟩
     case measure=>rw [hwi,iof_succ,iof_nat]; exact Nat.sub_lt_sub_left hlt (Nat.lt_succ_self i)
    ·obtain rfl:=L.out.fin hlt
     have hltI:¬ (i:Int) < (a.len:Int):=by omega
     clear hn hal hrz
     have q9:wr.cell? ⟨xz,9,none⟩=some vb:=B.out.cell 9
     go_wp2_with (first
      | (go_at_call 106; refine (ihB b hsb wr g s' (d + 1) _ vb p (by omega) S.out.self hB.out hp (by omega)).mono ?_; rintro e w4 ⟨rfl,S4⟩))
     go_end0
     exact ⟨rfl,by rw [E.out,if_neg (by rw [hbg]; exact Bool.false_ne_true),show cnt a (d + 1) (s.x d)=s' from hE.out.symm]; exact S.out.trans S4⟩
theorem Elems.st1 {V:Vw} {x:Nd} {xs:List Value} (h:Elems V x 1 xs) (hl:0 < x.len):∃ o n t a b c r,x=.st o n t a b c r:=by
 cases x with
 | nil=>simp [Nd.len] at hl
 | st o n t a b c r=>exact ⟨_,_,_,_,_,_,_,rfl⟩
 | ex=>exact absurd h.1 (by decide)
 | bl=>exact absurd h.1 (by decide)
 | ca=>exact absurd h.1 (by decide)
 | pa=>exact absurd h.1 (by decide)
 | de=>exact absurd h.1 (by decide)
theorem Elems.bl1 {V:Vw} {x:Nd} {xs:List Value} (h:Elems V x 2 xs) (hl:0 < x.len):∃ b r,x=.bl b r:=by
 cases x with
 | nil=>simp [Nd.len] at hl
 | bl b r=>exact ⟨_,_,rfl⟩
 | ex=>exact absurd h.1 (by decide)
 | st=>exact absurd h.1 (by decide)
 | ca=>exact absurd h.1 (by decide)
 | pa=>exact absurd h.1 (by decide)
 | de=>exact absurd h.1 (by decide)
theorem Elems.ca1 {V:Vw} {x:Nd} {xs:List Value} (h:Elems V x 3 xs) (hl:0 < x.len):∃ l u b r,x=.ca l u b r:=by
 cases x with
 | nil=>simp [Nd.len] at hl
 | ca l u b r=>exact ⟨_,_,_,_,rfl⟩
 | ex=>exact absurd h.1 (by decide)
 | st=>exact absurd h.1 (by decide)
 | bl=>exact absurd h.1 (by decide)
 | pa=>exact absurd h.1 (by decide)
 | de=>exact absurd h.1 (by decide)
structure Bk (p:Nat → Prop) (g:Nat) (w:World) (A:Option Addr) (n i:Nat) (tl:Nd) (bx:Nat) (ds:Array Value) (va vb vc:Value) (es bs cs:Nd) (s:Ct) (wr:World):Prop where
 S:Cs g s w wr
 B:Blk wr bx 44 ds
 L:Lp (vp p wr) A n 1 (i + 1) tl
 a:Sl (vp p wr) va es 0
 b:Sl (vp p wr) vb bs 2
 c:Sl (vp p wr) vc cs 3
theorem Bk.to {p:Nat → Prop} {g:Nat} {w wr w':World} {A:Option Addr} {n i bx:Nat} {tl es bs cs:Nd} {ds:Array Value} {va vb vc:Value} {s t:Ct} (h:Bk p g w A n i tl bx ds va vb vc es bs cs s wr) (x:Px g wr w') (k:Cs g t w w') (hp:∀ b,p b → b ≠ g) (hb:bx ≠ g):Bk p g w A n i tl bx ds va vb vc es bs cs t w' :=
 ⟨k,h.B.px x hb,h.L.mono (vp_px x hp),h.a.mono (vp_px x hp),h.b.mono (vp_px x hp),h.c.mono (vp_px x hp)⟩
theorem cb_step {n:Nat} (hn:n ≤ 4611686018427387904) (ihX:CX n) (ihB:CB n):CB (n + 1):=by
 intro x hsz w g s d D v p hD h hsl hp hd
 subst hD
 have hwd:wrap64 ((d:Int) + 1)=(d:Int) + 1:=IntWalk.wrap64_in _ (by omega)
 have HZ:Hid ((Tryz.prog.info? 44).map (·.size)=some 10):=by unfold Hid; kernel_rfl
 have HX:Hid ((Tryz.prog.info? 36).map (·.size)=some 10):=by unfold Hid; kernel_rfl
 have HC3:Hid ((Tryz.prog.info? 101).map (·.size)=some 3):=by unfold Hid; kernel_rfl
 obtain ⟨A,c,rfl,la⟩:=hsl.lp
 generalize hR:cnt x d s=R
 have hg:g < w.heap.size:=h.blk.lt
 have S0:=Lib.hid h
 have L0:=Lib.hid la
 have E0:=Lib.hid hR
 have hxl:=len_sz x
 generalize hN:x.len=N at *
 have hNn:N ≤ n:=by omega
 have hxs:x.sz ≤ n:=by omega
 clear h la hR hsl hsz hN hxl
 go_enter Tryz.func106,Tryz.ntmps106
 go_wp2_with fail
 go_loopw [16] (fun u wr=>∃ (i:Nat) (r:Nd) (s':Ct),u=.int .i64 i∧Hid (Lp (vp p wr) A N 1 i r)∧Hid (Cs g s' w wr)∧Hid (cnt r d s'=R)∧r.sz ≤ n) (fun u _=>N - (intOf u).toNat)
 case atStart=>exact ⟨0,x,s,rfl,L0,S0,E0,hxs⟩
 case round =>
  clear L0 S0 E0 hxs
  obtain ⟨i,r,s',rfl,L,S,hE,hrz⟩:=hrel
  by_cases hlt:i < N
  ·have hrl:0 < r.len:=by have:=L.out.1; omega
   obtain ⟨op,nm,ty,es,bs,cs,tl,rfl⟩:∃ o n t a b c r',r=.st o n t a b c r':=by
    obtain ⟨_,xs,_,_,he⟩:=L.out
    exact he.st1 hrl
   obtain ⟨bb,o,ds,rfl,hnv,hc,L'⟩:=L.out.step hlt
   obtain ⟨va,vb,vc,hds,ha,hb,hcs⟩:=nv_stI hnv
   have hltI:(i:Int) < (N:Int):=by omega
   have hwi:wrap64 ((i:Int) + 1)=(i:Int) + 1:=IntWalk.wrap64_in _ (by omega)
   have hz1:es.sz < n∧bs.sz < n∧cs.sz < n∧tl.sz ≤ n:=by simp only [Nd.sz] at hrz; omega
   have E1:Hid (R=if bgS cs.len (s'.s d) d=true then (s'.s d).big else cnt tl d (cnt cs (d + 1) (cnt bs (d + 1) (cnt es (d + 1) (s'.s d))))):=hE.out.symm
   have NV:=Lib.hid hnv
   have HC:=Lib.hid hc
   have HD:=Lib.hid hds
   have LS:Hid (Lp (vp p wr) (some ⟨bb,o,none⟩) N 1 (i + 1) tl):=L'
   obtain ⟨A1,c1,rfl,l1⟩:=ha.lp
   obtain ⟨A2,c2,rfl,l2⟩:=hb.lp
   obtain ⟨A3,c3,rfl,l3⟩:=hcs.lp
   have Ha:=Lib.hid ha
   have Hb:=Lib.hid hb
   have Hc:=Lib.hid hcs
   have hne:wr.heap.size ≠ g:=by have:=S.out.blk.lt; omega
   clear hnv hc hds L' L hE ha hb hcs l1 l2 l3 hrz hrl
   go_upto_region 5 with (first
    | ((with_reducible show wpList _ _ _ (Oper.mk (some 19) (.load 44 (.tmp 18)) _ _ _ _ :: _) _ _); refine wpList_load_mid rfl _ _ rfl _ _ rfl ds.toList _ (fun j v hv=>(vp_some (HC.out j v hv)).2) Tryz.underlying44 rfl (by rw [Array.length_toList,show ds.size=10 from NV.out.size]; exact HZ.out) ?_; rw [Array.toArray_toList])
    | ((with_reducible show wpList _ _ _ (Oper.mk none (.store 44 (.tmp 7) _) _ _ _ _ :: _) _ _); refine wpList_store_row rfl _ _ _ rfl wr.heap.size rfl 44 zSt ds (Blk.new wr _ zSt) rfl NV.out.size NV.out.one (by rw [show ds.size=10 from NV.out.size]; exact HZ.out) ?_; refine nmW fun w3 hw3=>?_
       have x3:Ext wr w3:=by rw [← hw3]; exact (newRow wr _ zSt ds).1
       have K3:Hid (Blk w3 wr.heap.size 44 ds):=by rw [← hw3]; exact (newRow wr _ zSt ds).2
       have S3:=Lib.hid (S.out.ext x3)
       obtain ⟨hgz,f0,f1,f2,f3,hfz⟩:=S3.out.facts
       clear hw3))
   generalize wr.heap.size=bx at K3 hne ⊢
   refine nmW fun w4 hw4=>?_
   have S4:Hid (Cs g (s'.s d) w w4):=by rw [← hw4]; exact S3.out.toS d
   have K4:Hid (Bk p g w (some ⟨bb,o,none⟩) N i tl bx ds (.slice A1 es.len c1) (.slice A2 bs.len c2) (.slice A3 cs.len c3) es bs cs (s'.s d) w4):=by
    have px:Px g w3 w4:=by rw [← hw4]; exact (S3.out.self.toS d).px
    have hq:Px g wr w4:=(Px.of x3).trans px
    exact ⟨S4.out,K3.out.px px hne,LS.out.mono (vp_px hq hp),Ha.out.mono (vp_px hq hp),Hb.out.mono (vp_px hq hp),Hc.out.mono (vp_px hq hp)⟩
   clear hw4 S3 K3 x3 f0 f1 f2 f3 hfz hgz LS Ha Hb Hc HC NV S
   go_cut [50] from 36 to 50 (fun c wx=>c=.bool (bgS cs.len (s'.s d) d)∧wx=w4)
   case first =>
    have q9:w4.cell? ⟨bx,9,none⟩=some (.slice A3 cs.len c3):=by rw [K4.out.B.cell,HD.out]; rfl
    obtain ⟨hgz,f0,f1,f2,f3,hfz⟩:=S4.out.facts
    clear HD K4 S4 E1
    go_wp2_with fail
    all_goals
     go_meet
     exact ⟨congrArg Value.bool (by rw [Bool.eq_iff_iff]; simp only [bgS,Bool.or_eq_true,decide_eq_true_eq]; first | omega | (simp; omega)),rfl⟩
   case rest =>
    obtain ⟨rfl,rfl⟩:=hcut
    cases hbg:bgS cs.len (s'.s d) d
    case true =>
     obtain ⟨hgz,f0,f1,f2,f3,hfz⟩:=S4.out.facts
     go_wp2_with fail
     refine bodyPost_ret (results_none rfl _ _ _) rfl ?_
     exact ⟨rfl,by rw [E1.out,if_pos hbg]; exact S4.out.toB⟩
    case false =>
     have hd2:d ≤ 12:=by simp [bgS] at hbg; omega
     have E2:Hid (R=cnt tl d (cnt cs (d + 1) (cnt bs (d + 1) (cnt es (d + 1) (s'.s d))))):=E1.out.trans (if_neg (by rw [hbg]; exact Bool.false_ne_true))
     have HL:Hid (es.len ≤ es.sz∧bs.len ≤ bs.sz∧cs.len ≤ cs.sz):=⟨len_sz es,len_sz bs,len_sz cs⟩
     have q7:wc.cell? ⟨bx,7,none⟩=some (.slice A1 es.len c1):=by rw [K4.out.B.cell,HD.out]; rfl
     clear E1 S4 hbg
     go_wp2_with fail
     clear q7
     go_loopw [57] (fun u wr=>∃ (j:Nat) (r:Nd) (t:Ct),u=.int .i64 j∧Hid (Lp (vp p wr) A1 es.len 0 j r)∧Hid (Bk p g w (some ⟨bb,o,none⟩) N i tl bx ds (.slice A1 es.len c1) (.slice A2 bs.len c2) (.slice A3 cs.len c3) es bs cs t wr)∧Hid (cnt r (d + 1) t=cnt es (d + 1) (s'.s d))∧r.sz ≤ es.sz) (fun u _=>es.len - (intOf u).toNat)
     case atStart =>
      obtain ⟨A1',c1',e1',l1⟩:=K4.out.a.lp
      cases e1'
      exact ⟨0,es,_,rfl,l1,K4,rfl,Nat.le_refl _⟩
     case round =>
      clear K4
      obtain ⟨j,r,t,rfl,L,K,hE,hrz⟩:=hrel
      by_cases hlj:j < es.len
      ·obtain ⟨b2,o2,xs,rfl,hnv,hc,L'⟩:=L.out.step hlj
       have hljI:(j:Int) < (es.len:Int):=by omega
       have hrl:0 < r.len:=by have:=L.out.1; omega
       have hrs:r.hd.sz < n∧r.tl.sz ≤ es.sz:=by have:=hd_sz hrl; omega
       have hwj:wrap64 ((j:Int) + 1)=(j:Int) + 1:=IntWalk.wrap64_in _ (by have:=HL.out; omega)
       have NV:=Lib.hid hnv
       have HC:=Lib.hid hc
       have LS:=Lib.hid L'
       have hE2:=Lib.hid ((L.out.ex (d + 1) t).symm.trans hE.out)
       clear hnv hc L' L hE hrz
       go_wp2_with (first
        | ((with_reducible show wpList _ _ _ (Oper.mk (some 60) (.load 36 (.tmp 59)) _ _ _ _ :: _) _ _); refine wpList_load_mid rfl _ _ rfl _ _ rfl xs.toList _ (fun j v hv=>(vp_some (HC.out j v hv)).2) Tryz.underlying36 rfl (by rw [Array.length_toList,show xs.size=10 from NV.out.size]; exact HX.out) ?_; rw [Array.toArray_toList])
        | ((with_reducible show wpList _ _ _ (Oper.mk none (.store 36 (.tmp 9) _) _ _ _ _ :: _) _ _); refine wpList_store_row rfl _ _ _ rfl wr.heap.size rfl 36 zEx xs (Blk.new wr _ zEx) rfl NV.out.size NV.out.one (by rw [show xs.size=10 from NV.out.size]; exact HX.out) ?_; refine nmW fun w3 hw3=>?_
           have x3:Ext wr w3:=by rw [← hw3]; exact (newRow wr _ zEx xs).1
           have K3:Hid (Blk w3 wr.heap.size 36 xs):=by rw [← hw3]; exact (newRow wr _ zEx xs).2
           have S3:=Lib.hid (K.out.S.ext x3)
           clear hw3)
        | ((with_reducible show wpList _ _ _ (Oper.mk (some 62) (.load 36 (.tmp 9)) _ _ _ _ :: _) _ _); refine wpList_ldb rfl _ _ rfl wr.heap.size 36 xs rfl K3.out _ Tryz.underlying36 rfl (by rw [show xs.size=10 from NV.out.size]; exact HX.out) ?_)
        | (go_at_call 105; refine (ihX r.hd hrs.1 (hd_len hrl) w3 g t (d + 1) _ xs p (by omega) S3.out.self (NV.out.mono (vp_px (Px.of x3) hp)) hp (by omega)).mono ?_; rintro e w5 ⟨rfl,S5⟩))
       go_roundw
       case rel=>exact ⟨j + 1,r.tl,_,by rw [hwj]; rfl,LS.out.mono (vp_px ((Px.of x3).trans S5.px) hp),K.out.to ((Px.of x3).trans S5.px) (S3.out.trans S5) hp hne,hE2.out,hrs.2⟩
       case measure=>rw [hwj,iof_succ,iof_nat]; exact Nat.sub_lt_sub_left hlj (Nat.lt_succ_self j)
      ·obtain rfl:=L.out.fin hlj
       have hljI:¬ (j:Int) < (es.len:Int):=by omega
       have E3:Hid (R=cnt tl d (cnt cs (d + 1) (cnt bs (d + 1) t))):=by rw [show t=cnt es (d + 1) (s'.s d) from hE.out]; exact E2.out
       have q8:wr.cell? ⟨bx,8,none⟩=some (.slice A2 bs.len c2):=by rw [K.out.B.cell,HD.out]; rfl
       clear E2 hE L hrz
       go_wp2_with fail
       clear q8
       go_loopw [70] (fun u wr=>∃ (j:Nat) (r:Nd) (t2:Ct),u=.int .i64 j∧Hid (Lp (vp p wr) A2 bs.len 2 j r)∧Hid (Bk p g w (some ⟨bb,o,none⟩) N i tl bx ds (.slice A1 es.len c1) (.slice A2 bs.len c2) (.slice A3 cs.len c3) es bs cs t2 wr)∧Hid (cnt r (d + 1) t2=cnt bs (d + 1) t)∧r.sz ≤ bs.sz) (fun u _=>bs.len - (intOf u).toNat)
       case atStart =>
        obtain ⟨A1',c1',e1',l1⟩:=K.out.b.lp
        cases e1'
        exact ⟨0,bs,_,rfl,l1,K,rfl,Nat.le_refl _⟩
       case round =>
        clear K
        obtain ⟨j,r,t2,rfl,L,K,hE,hrz⟩:=hrel
        by_cases hlj:j < bs.len
        ·have hrl:0 < r.len:=by have:=L.out.1; omega
         obtain ⟨body,rt,rfl⟩:∃ b r',r=.bl b r':=by
          obtain ⟨_,ys,_,_,he⟩:=L.out
          exact he.bl1 hrl
         obtain ⟨b2,o2,xs,rfl,hnv,hc,L'⟩:=L.out.step hlj
         obtain ⟨vk,rfl,hbody⟩:=nv_blI hnv
         have hljI:(j:Int) < (bs.len:Int):=by omega
         have hrs:body.sz < n∧rt.sz ≤ bs.sz:=by simp only [Nd.sz] at hrz; omega
         have hwj:wrap64 ((j:Int) + 1)=(j:Int) + 1:=IntWalk.wrap64_in _ (by have:=HL.out; omega)
         have qk:wr.cell? ⟨b2,o2 + j,none⟩=some vk:=by have:=(vp_some (hc 0 vk rfl)).2; rwa [show o2 + j * szK 2 + 0=o2 + j from (congrArg (o2 + ·) (Nat.mul_one j))] at this
         have LS:Hid (Lp (vp p wr) (some ⟨b2,o2,none⟩) bs.len 2 (j + 1) rt):=L'
         have hE2:Hid (cnt rt (d + 1) (cnt body (d + 1) t2)=cnt bs (d + 1) t):=hE.out
         have HB:=Lib.hid hbody
         clear hnv hc L' L hE hrz hbody
         go_wp2_with (first
          | (go_at_call 106; refine (ihB body hrs.1 wr g t2 (d + 1) _ vk p (by omega) K.out.S.self HB.out hp (by omega)).mono ?_; rintro e w5 ⟨rfl,S5⟩))
         go_roundw
         case rel=>exact ⟨j + 1,rt,_,by rw [hwj]; rfl,LS.out.mono (vp_px S5.px hp),K.out.to S5.px (K.out.S.trans S5) hp hne,hE2.out,hrs.2⟩
         case measure=>rw [hwj,iof_succ,iof_nat]; exact Nat.sub_lt_sub_left hlj (Nat.lt_succ_self j)
        ·obtain rfl:=L.out.fin hlj
         have hljI:¬ (j:Int) < (bs.len:Int):=by omega
         have E4:Hid (R=cnt tl d (cnt cs (d + 1) t2)):=by rw [show t2=cnt bs (d + 1) t from hE.out]; exact E3.out
         have q9:wr.cell? ⟨bx,9,none⟩=some (.slice A3 cs.len c3):=by rw [K.out.B.cell,HD.out]; rfl
         clear E3 hE L hrz
         go_wp2_with fail
         clear q9
         go_loopw [83] (fun u wr=>∃ (j:Nat) (r:Nd) (t3:Ct),u=.int .i64 j∧Hid (Lp (vp p wr) A3 cs.len 3 j r)∧Hid (Bk p g w (some ⟨bb,o,none⟩) N i tl bx ds (.slice A1 es.len c1) (.slice A2 bs.len c2) (.slice A3 cs.len c3) es bs cs t3 wr)∧Hid (cnt r (d + 1) t3=cnt cs (d + 1) t2)∧r.sz ≤ cs.sz) (fun u _=>cs.len - (intOf u).toNat)
         case atStart =>
          obtain ⟨A1',c1',e1',l1⟩:=K.out.c.lp
          cases e1'
          exact ⟨0,cs,_,rfl,l1,K,rfl,Nat.le_refl _⟩
         case round =>
          clear K
          obtain ⟨j,r,t3,rfl,L,K,hE,hrz⟩:=hrel
          by_cases hlj:j < cs.len
          ·have hrl:0 < r.len:=by have:=L.out.1; omega
           obtain ⟨lo,up,body,rt,rfl⟩:∃ l u b r',r=.ca l u b r':=by
            obtain ⟨_,ys,_,_,he⟩:=L.out
            exact he.ca1 hrl
           obtain ⟨b2,o2,xs,rfl,hnv,hc,L'⟩:=L.out.step hlj
           obtain ⟨vk,hxs,hbody⟩:=nv_caI hnv
           have hljI:(j:Int) < (cs.len:Int):=by omega
           have hrs:body.sz < n∧rt.sz ≤ cs.sz:=by simp only [Nd.sz] at hrz; omega
           have hwj:wrap64 ((j:Int) + 1)=(j:Int) + 1:=IntWalk.wrap64_in _ (by have:=HL.out; omega)
           have NV:=Lib.hid hnv
           have HC:=Lib.hid hc
           have HXS:=Lib.hid hxs
           have LS:Hid (Lp (vp p wr) (some ⟨b2,o2,none⟩) cs.len 3 (j + 1) rt):=L'
           have hE2:Hid (cnt rt (d + 1) (cnt body (d + 1) t3)=cnt cs (d + 1) t2):=hE.out
           have HB:=Lib.hid hbody
           clear hnv hc L' L hE hrz hbody hxs
           go_wp2_with (first
            | ((with_reducible show wpList _ _ _ (Oper.mk (some 86) (.load 101 (.tmp 85)) _ _ _ _ :: _) _ _); refine wpList_load_mid rfl _ _ rfl _ _ rfl xs.toList _ (fun j v hv=>(vp_some (HC.out j v hv)).2) Tryz.underlying101 rfl (by rw [Array.length_toList,show xs.size=3 from NV.out.size]; exact HC3.out) ?_; rw [Array.toArray_toList])
            | ((with_reducible show wpList _ _ _ (Oper.mk none (.store 101 (.tmp 13) _) _ _ _ _ :: _) _ _); refine wpList_store_row rfl _ _ _ rfl wr.heap.size rfl 101 #[.int .i64 0,.int .i64 0,.slice none 0 0] xs (Blk.new wr _ _) rfl NV.out.size NV.out.one (by rw [show xs.size=3 from NV.out.size]; exact HC3.out) ?_; refine nmW fun w3 hw3=>?_
               have x3:Ext wr w3:=by rw [← hw3]; exact (newRow wr _ _ xs).1
               have k3:Blk w3 wr.heap.size 101 xs:=by rw [← hw3]; exact (newRow wr _ _ xs).2
               have q2:w3.cell? ⟨wr.heap.size,2,none⟩=some vk:=by rw [k3.cell,HXS.out]; rfl
               have S3:=Lib.hid (K.out.S.ext x3)
               clear hw3)
            | (go_at_call 106; refine (ihB body hrs.1 w3 g t3 (d + 1) _ vk p (by omega) S3.out.self (HB.out.mono (vp_px (Px.of x3) hp)) hp (by omega)).mono ?_; rintro e w5 ⟨rfl,S5⟩))
           go_roundw
           case rel=>exact ⟨j + 1,rt,_,by rw [hwj]; rfl,LS.out.mono (vp_px ((Px.of x3).trans S5.px) hp),K.out.to ((Px.of x3).trans S5.px) (S3.out.trans S5) hp hne,hE2.out,hrs.2⟩
           case measure=>rw [hwj,iof_succ,iof_nat]; exact Nat.sub_lt_sub_left hlj (Nat.lt_succ_self j)
          ·obtain rfl:=L.out.fin hlj
           have hljI:¬ (j:Int) < (cs.len:Int):=by omega
           have E5:Hid (cnt tl d t3=R):=by rw [show t3=cnt cs (d + 1) t2 from hE.out]; exact E4.out.symm
           clear E4 hE L hrz
           go_wp2_with fail
           go_roundw
           case rel=>exact ⟨i + 1,tl,t3,rfl,K.out.L,K.out.S,E5,hz1.2.2.2⟩
           case measure=>rw [iof_succ,iof_nat]; exact Nat.sub_lt_sub_left hlt (Nat.lt_succ_self i)
  ·obtain rfl:=L.out.fin hlt
   have hltI:¬ (i:Int) < (N:Int):=by omega
   go_wp2_with fail
   go_end0
   exact ⟨rfl,by rw [← hE.out]; exact S.out⟩
theorem cnt_all:∀ n,n ≤ 4611686018427387904 → CX n∧CB n
 | 0,_=>⟨fun x h=>absurd h (by omega),fun x h=>absurd h (by omega)⟩
 | n + 1,h=>have ih:=cnt_all n (by omega); ⟨cx_step (by omega) ih.1 ih.2,cb_step (by omega) ih.1 ih.2⟩
def emX (op:Int) (ty:Ty) (nm:ByteArray) (n:Int) (la lb:Nat):Bool:=op == 0 && (tz ty && (emp nm && (n == 0 && (la == 0 && lb == 0))))
def emptyX:Nd → Bool
 | .ex op ty nm n a b _=>emX op ty nm n a.len b.len
 | _=>false
theorem isEmpty_any (op:Int) (ty:Ty) (nm:ByteArray) (n:Int) (A B:Option Addr) (la lb ca cb:Nat) (w:World):Calls Tryz.prog 88 #[.agg #[.int .i64 op,.int .i64 ty.base,.int .i64 ty.bits,.string ty.name,.bool ty.opt,.bool ty.err,.string nm,.int .i64 n,.slice A la ca,.slice B lb cb]] w fun e w'=>e=.returned (.bool (emX op ty nm n la lb))∧Ext w w':=by
 have hq:=run_tz_eql ty
 have HE:Hid (emX op ty nm n la lb=(op == 0 && (tz ty && (emp nm && (n == 0 && (la == 0 && lb == 0)))))):=rfl
 rw [HE.out]
 generalize tz ty=z at *
 have he:emp nm=(nm.toList == []):=by unfold emp; cases nm.toList <;> rfl
 rw [he]
 clear he HE
 cases z
 all_goals
  go_enter Tryz.func88,Tryz.ntmps88
  go_wp2_with fail
  all_goals
   go_ret
   exact ⟨ret_bool (by first | (simp [*]; done) | (simp [*]; omega) | (simp [*]; rw [Bool.eq_iff_iff]; simp; omega)),exA⟩
def cntD:Nd → Ct → Ct
 | .de fn _ ps _ val b _,s =>
  let s1:Ct:=⟨s.st,s.ex,s.de,s.lg || decide (4 < ps.len)⟩
  cnt b 1 (if !fn || !emptyX val then cnt val 1 s1 else s1)
 | _,s=>s
def cntP:Nd → Ct → Ct
 | .de fn nm ps ty val b tl,s=>cntP tl (cntD (.de fn nm ps ty val b .nil) s)
 | _,s=>s
def largeS (x:Nd):Bool:=decide (12 < x.len) || (cntP x ⟨0,0,0,false⟩).lg
theorem cdecl_any (x:Nd) (hx:x.sz ≤ 4611686018427387903) (h1:x.len=1) (w:World) (g:Nat) (s:Ct) (cs:Array Value) (p:Nat → Prop) (h:Cs g s w w) (hnv:Nv (vp p w) 5 x cs) (hp:∀ b,p b → b ≠ g):Calls Tryz.prog 53 #[.pointer (some ⟨g,0,none⟩),.agg cs] w fun e w'=>e=.returned (.tuple #[])∧Cs g (cntD x s) w w':=by
 obtain ⟨fn,nm,ps,ty,val,b,rfl⟩:∃ fn nm ps ty val b,x=.de fn nm ps ty val b .nil:=by
  have ht:=tl_one h1
  have h2:=hnv.1
  cases x with
  | nil=>cases h1
  | de fn nm ps ty val b tl=>cases ht; exact ⟨_,_,_,_,_,_,rfl⟩
  | ex=>exact absurd h2.1 (by decide)
  | st=>exact absurd h2.1 (by decide)
  | bl=>exact absurd h2.1 (by decide)
  | ca=>exact absurd h2.1 (by decide)
  | pa=>exact absurd h2.1 (by decide)
 obtain ⟨vps,ys,vb,rfl,hps,hval,hb⟩:=nv_deI hnv
 obtain ⟨Ap,cp,rfl,_⟩:=hps.lp
 have hvl:val.len=1:=hval.2
 obtain rfl | ⟨op,ty2,nm2,k,ea,eb,r,rfl⟩:=hval.1.ex
 ·cases hvl
 obtain rfl:r=.nil:=tl_one hvl
 obtain ⟨va,vc,rfl,ha,hc⟩:=nv_exI hval
 obtain ⟨A1,c1,rfl,_⟩:=ha.lp
 obtain ⟨A2,c2,rfl,_⟩:=hc.lp
 have hg:g < w.heap.size:=h.blk.lt
 have hzv:(Nd.ex op ty2 nm2 k ea eb .nil).sz < 4611686018427387904∧b.sz < 4611686018427387904:=by simp only [Nd.sz] at hx ⊢; omega
 have IH:=Lib.hid (cnt_all 4611686018427387904 (Nat.le_refl _))
 obtain ⟨hgz,f0,f1,f2,f3,hfz⟩:=h.facts
 have S0:=Lib.hid h
 have HV:=Lib.hid hval
 have HB:=Lib.hid hb
 have HE:=Lib.hid (isEmpty_any op ty2 nm2 k A1 A2 ea.len eb.len c1 c2)
 generalize hem:emX op ty2 nm2 k ea.len eb.len=em at HE
 have HM:Hid (emptyX (.ex op ty2 nm2 k ea eb .nil)=em):=hem
 generalize hbg:decide (4 < ps.len)=bg
 generalize hRR:cntD (.de fn nm ps ty (.ex op ty2 nm2 k ea eb .nil) b .nil) s=R
 have HW:Hid (R=cnt b 1 (if (!fn || !em)=true then cnt (.ex op ty2 nm2 k ea eb .nil) 1 ⟨s.st,s.ex,s.de,s.lg || bg⟩ else ⟨s.st,s.ex,s.de,s.lg || bg⟩)):=by
  unfold Hid
  rw [← hRR,← hem,← hbg]
  rfl
 have HG:=Lib.hid hbg
 clear h hval hb hnv hps ha hc hem hbg hx h1 hRR
 go_enter Tryz.func53,Tryz.ntmps53
 go_upto_region 1 with fail
 go_cut [] from 4 to 16 (fun wx=>Hid (Cs g ⟨s.st,s.ex,s.de,s.lg || bg⟩ w wx)∧Hid (Blk wx w.heap.size 38 #[.bool fn,.string nm,.slice Ap ps.len cp,.int .i64 ty.base,.int .i64 ty.bits,.string ty.name,.bool ty.opt,.bool ty.err,.int .i64 op,.int .i64 ty2.base,.int .i64 ty2.bits,.string ty2.name,.bool ty2.opt,.bool ty2.err,.string nm2,.int .i64 k,.slice A1 ea.len c1,.slice A2 eb.len c2,vb]))
 case first =>
  have hbi:(decide ((4:Int) < (ps.len:Int)))=bg:=by rw [← HG.out,Bool.eq_iff_iff,decide_eq_true_eq,decide_eq_true_eq]; omega
  have fin:∀ v,Cs g ⟨s.st,s.ex,s.de,v⟩ w ((w.setCell ⟨g,3,none⟩ (.bool v)).alloc (.cells #[.bool fn,.string nm,.slice Ap ps.len cp,.int .i64 ty.base,.int .i64 ty.bits,.string ty.name,.bool ty.opt,.bool ty.err,.int .i64 op,.int .i64 ty2.base,.int .i64 ty2.bits,.string ty2.name,.bool ty2.opt,.bool ty2.err,.string nm2,.int .i64 k,.slice A1 ea.len c1,.slice A2 eb.len c2,vb] 38))∧Blk ((w.setCell ⟨g,3,none⟩ (.bool v)).alloc (.cells #[.bool fn,.string nm,.slice Ap ps.len cp,.int .i64 ty.base,.int .i64 ty.bits,.string ty.name,.bool ty.opt,.bool ty.err,.int .i64 op,.int .i64 ty2.base,.int .i64 ty2.bits,.string ty2.name,.bool ty2.opt,.bool ty2.err,.string nm2,.int .i64 k,.slice A1 ea.len c1,.slice A2 eb.len c2,vb] 38)) w.heap.size 38 #[.bool fn,.string nm,.slice Ap ps.len cp,.int .i64 ty.base,.int .i64 ty.bits,.string ty.name,.bool ty.opt,.bool ty.err,.int .i64 op,.int .i64 ty2.base,.int .i64 ty2.bits,.string ty2.name,.bool ty2.opt,.bool ty2.err,.string nm2,.int .i64 k,.slice A1 ea.len c1,.slice A2 eb.len c2,vb]:=fun v=>by
   have q:=Blk.new (w.setCell ⟨g,3,none⟩ (.bool v)) 38 #[.bool fn,.string nm,.slice Ap ps.len cp,.int .i64 ty.base,.int .i64 ty.bits,.string ty.name,.bool ty.opt,.bool ty.err,.int .i64 op,.int .i64 ty2.base,.int .i64 ty2.bits,.string ty2.name,.bool ty2.opt,.bool ty2.err,.string nm2,.int .i64 k,.slice A1 ea.len c1,.slice A2 eb.len c2,vb]
   rw [show (w.setCell ⟨g,3,none⟩ (.bool v)).heap.size=w.heap.size by simp [World.setCell]] at q
   exact ⟨⟨(S0.out.blk.set_ 3 _).alloc _,(S0.out.px.setM 3 _).alloc _⟩,q⟩
  have FIN:=Lib.hid fin
  clear fin HE HV HB IH S0
  go_wp2_with fail
  all_goals
   go_meet
   first
    | (rw [show (s.lg || bg)=true by simp [*]]; exact FIN.out true)
    | (rw [show (s.lg || bg)=bg by simp [*]]; exact FIN.out bg)
    | trace_state
 case rest =>
  obtain ⟨S1,B1⟩:=hcut
  clear f0 f1 f2 f3 hfz hgz S0
  have hne:w.heap.size ≠ g:=by omega
  generalize w.heap.size=bx at B1 hne ⊢
  have q0:wc.cell? ⟨bx,0,none⟩=some (.bool fn):=B1.out.cell 0
  have q8:wc.cell? ⟨bx,8,none⟩=some (.int .i64 op):=B1.out.cell 8
  have q9:wc.cell? ⟨bx,9,none⟩=some (.int .i64 ty2.base):=B1.out.cell 9
  have q10:wc.cell? ⟨bx,10,none⟩=some (.int .i64 ty2.bits):=B1.out.cell 10
  have q11:wc.cell? ⟨bx,11,none⟩=some (.string ty2.name):=B1.out.cell 11
  have q12:wc.cell? ⟨bx,12,none⟩=some (.bool ty2.opt):=B1.out.cell 12
  have q13:wc.cell? ⟨bx,13,none⟩=some (.bool ty2.err):=B1.out.cell 13
  have q14:wc.cell? ⟨bx,14,none⟩=some (.string nm2):=B1.out.cell 14
  have q15:wc.cell? ⟨bx,15,none⟩=some (.int .i64 k):=B1.out.cell 15
  have q16:wc.cell? ⟨bx,16,none⟩=some (.slice A1 ea.len c1):=B1.out.cell 16
  have q17:wc.cell? ⟨bx,17,none⟩=some (.slice A2 eb.len c2):=B1.out.cell 17
  have q18:wc.cell? ⟨bx,18,none⟩=some vb:=B1.out.cell 18
  have hbl:=B1.out.lt
  generalize hs1:(⟨s.st,s.ex,s.de,s.lg || bg⟩:Ct)=s1 at S1 HW
  have ARM:∀ wn,Ext wc wn → Hid (Cs g s1 w wn)∧Hid (Nv (vp p wn) 0 (.ex op ty2 nm2 k ea eb .nil) #[.int .i64 op,.int .i64 ty2.base,.int .i64 ty2.bits,.string ty2.name,.bool ty2.opt,.bool ty2.err,.string nm2,.int .i64 k,.slice A1 ea.len c1,.slice A2 eb.len c2]):=fun wn x=>⟨S1.out.ext x,HV.out.mono (vp_px (S1.out.ext x).px hp)⟩
  have ARMS:=Lib.hid ARM
  clear ARM
  cases fn
  case false =>
   clear HE
   go_wp2_with (first
    | (go_at_call 105; refine (IH.out.1 _ hzv.1 hvl wc g s1 1 _ _ p rfl (ARMS.out wc (Ext.refl _)).1.out.self (ARMS.out wc (Ext.refl _)).2.out hp (by decide)).mono ?_; rintro e w4 ⟨rfl,S4⟩
       have q18':w4.cell? ⟨bx,18,none⟩=some vb:=(B1.out.px S4.px hne).cell 18
       have S4':=Lib.hid ((ARMS.out wc (Ext.refl _)).1.out.trans S4))
    | (go_at_call 106; refine (IH.out.2 b hzv.2 w4 g _ 1 _ vb p rfl S4'.out.self (HB.out.mono (vp_px S4'.out.px hp)) hp (by decide)).mono ?_; rintro e w5 ⟨rfl,S5⟩))
   go_end0
   exact ⟨rfl,by rw [HW.out]; exact S4'.out.trans S5⟩
  case true =>
   cases em
   case true =>
    go_wp2_with (first
     | (go_at_call 88; refine (HE.out _).mono ?_; rintro r w3 ⟨rfl,x3⟩; have q18':w3.cell? ⟨bx,18,none⟩=some vb:=(B1.out.ext x3).cell 18; have S3:=Lib.hid (S1.out.ext x3))
     | (go_at_call 106; refine (IH.out.2 b hzv.2 w3 g _ 1 _ vb p rfl S3.out.self (HB.out.mono (vp_px S3.out.px hp)) hp (by decide)).mono ?_; rintro e w5 ⟨rfl,S5⟩))
    go_end0
    exact ⟨rfl,by rw [HW.out]; exact S3.out.trans S5⟩
   case false =>
    go_wp2_with (first
     | (go_at_call 88; refine (HE.out _).mono ?_; rintro r w3 ⟨rfl,x3⟩; have y3:=x3.facts; have A3:=Lib.hid (ARMS.out w3 x3))
     | (go_at_call 105; refine (IH.out.1 _ hzv.1 hvl w3 g s1 1 _ _ p rfl A3.out.1.out.self A3.out.2.out hp (by decide)).mono ?_; rintro e w4 ⟨rfl,S4⟩
        have q18':w4.cell? ⟨bx,18,none⟩=some vb:=((B1.out.ext x3).px S4.px hne).cell 18
        have S4':=Lib.hid (A3.out.1.out.trans S4))
     | (go_at_call 106; refine (IH.out.2 b hzv.2 w4 g _ 1 _ vb p rfl S4'.out.self (HB.out.mono (vp_px S4'.out.px hp)) hp (by decide)).mono ?_; rintro e w5 ⟨rfl,S5⟩))
    go_end0
    exact ⟨rfl,by rw [HW.out]; exact S4'.out.trans S5⟩
theorem Elems.de1 {V:Vw} {x:Nd} {xs:List Value} (h:Elems V x 5 xs) (hl:0 < x.len):∃ fn nm ps ty val b r,x=.de fn nm ps ty val b r:=by
 cases x with
 | nil=>simp [Nd.len] at hl
 | de fn nm ps ty val b r=>exact ⟨_,_,_,_,_,_,_,rfl⟩
 | ex=>exact absurd h.1 (by decide)
 | st=>exact absurd h.1 (by decide)
 | bl=>exact absurd h.1 (by decide)
 | ca=>exact absurd h.1 (by decide)
 | pa=>exact absurd h.1 (by decide)
def zDc:Array Value:=#[.bool false,.string ⟨#[]⟩,.slice none 0 0,.int .i64 0,.int .i64 0,.string ⟨#[]⟩,.bool false,.bool false,.int .i64 0,.int .i64 0,.int .i64 0,.string ⟨#[]⟩,.bool false,.bool false,.string ⟨#[]⟩,.int .i64 0,.slice none 0 0,.slice none 0 0,.slice none 0 0]
theorem zDc_size:zDc.size=19:=by kernel_rfl
theorem isLarge_any (x:Nd) (hx:x.sz ≤ 4611686018427387903) (w:World) (v:Value) (p:Nat → Prop) (hsl:Sl (vp p w) v x 5) (hp:∀ b,p b → b < w.heap.size):Calls Tryz.prog 33 #[v] w fun e w'=>e=.returned (.bool (largeS x))∧Ext w w':=by
 have HZ:Hid ((Tryz.prog.info? 38).map (·.size)=some 19):=by unfold Hid; kernel_rfl
 obtain ⟨A,c,rfl,la⟩:=hsl.lp
 have hxl:=len_sz x
 by_cases hbig:12 < x.len
 ·have hbi:(12:Int) < (x.len:Int):=by omega
  have HR:Hid (largeS x=true):=by unfold Hid largeS; rw [decide_eq_true hbig]; rfl
  rw [HR.out]
  clear la hsl hx hxl
  go_enter Tryz.func33,Tryz.ntmps33
  go_wp2_with fail
  go_ret
  exact ⟨rfl,exA⟩
 have hbi:¬ (12:Int) < (x.len:Int):=by omega
 have HR:Hid (largeS x=(cntP x ⟨0,0,0,false⟩).lg):=by unfold Hid largeS; rw [decide_eq_false hbig]; rfl
 rw [HR.out]
 generalize hR:cntP x ⟨0,0,0,false⟩=R
 have E0:=Lib.hid hR
 generalize hN:x.len=N at *
 have X1:Ext w (w.alloc (.cells (ctC ⟨0,0,0,false⟩) 95)):=(Ext.refl w).alloc _
 have hp2:∀ b,p b → b ≠ w.heap.size:=fun b hb=>by have:=hp b hb; omega
 have S0:Hid (Cs w.heap.size ⟨0,0,0,false⟩ (w.alloc (.cells (ctC ⟨0,0,0,false⟩) 95)) (w.alloc (.cells (ctC ⟨0,0,0,false⟩) 95))):=⟨Blk.new w _ _,Px.refl _ _⟩
 have L0:Hid (Lp (vp p (w.alloc (.cells (ctC ⟨0,0,0,false⟩) 95))) A N 5 0 x):=la.mono (vp_px (Px.of X1) hp2)
 clear la hsl hR HR hxl hbig
 unfold ctC at S0 L0 X1
 go_enter Tryz.func33,Tryz.ntmps33
 go_wp2_with fail
 obtain ⟨w0,hw0⟩:∃ w0,w.alloc (.cells #[.int .i64 0,.int .i64 0,.int .i64 0,.bool false] 95)=w0:=⟨_,rfl⟩
 rw [hw0] at S0 L0 X1 ⊢
 clear hw0
 generalize hg:w.heap.size=g at *
 go_loopw [11] (fun u wr=>∃ (i:Nat) (r:Nd) (s:Ct),u=.int .i64 i∧Hid (Lp (vp p wr) A N 5 i r)∧Hid (Cs g s w0 wr)∧Hid (cntP r s=R)∧r.sz ≤ x.sz) (fun u _=>N - (intOf u).toNat)
 case atStart=>exact ⟨0,x,_,rfl,L0,S0,E0,Nat.le_refl _⟩
 case round =>
  clear L0 S0 E0
  obtain ⟨i,r,s,rfl,L,S,hE,hrz⟩:=hrel
  by_cases hlt:i < N
  ·have hrl:0 < r.len:=by have:=L.out.1; omega
   obtain ⟨fn,nm,ps,ty,val,b,tl,rfl⟩:∃ fn nm ps ty val b r',r=.de fn nm ps ty val b r':=by
    obtain ⟨_,xs,_,_,he⟩:=L.out
    exact he.de1 hrl
   obtain ⟨bb,o,ds,rfl,hnv,hc,L'⟩:=L.out.step hlt
   have hltI:(i:Int) < (N:Int):=by omega
   have hwi:wrap64 ((i:Int) + 1)=(i:Int) + 1:=IntWalk.wrap64_in _ (by omega)
   have hz1:(Nd.de fn nm ps ty val b .nil).sz ≤ 4611686018427387903∧tl.sz ≤ x.sz:=by simp only [Nd.sz] at hrz ⊢; omega
   have E1:Hid (cntP tl (cntD (.de fn nm ps ty val b .nil) s)=R):=hE.out
   have NV:=Lib.hid hnv
   have HC:=Lib.hid hc
   have LS:Hid (Lp (vp p wr) (some ⟨bb,o,none⟩) N 5 (i + 1) tl):=L'
   clear hnv hc L' L hE hrz hrl
   go_wp2_with (first
    | ((with_reducible show wpList _ _ _ (Oper.mk (some 14) (.load 38 (.tmp 13)) _ _ _ _ :: _) _ _); refine wpList_load_mid rfl _ _ rfl _ _ rfl ds.toList _ (fun j v hv=>(vp_some (HC.out j v hv)).2) Tryz.underlying38 rfl (by rw [Array.length_toList,show ds.size=19 from NV.out.size]; exact HZ.out) ?_; rw [Array.toArray_toList])
    | ((with_reducible show wpList _ _ _ (Oper.mk none (.store 38 (.tmp 5) _) _ _ _ _ :: _) _ _); refine wpList_store_row rfl _ _ _ rfl wr.heap.size rfl 38 zDc ds (Blk.new wr _ zDc) rfl ((show ds.size=19 from NV.out.size).trans zDc_size.symm) NV.out.one (by rw [show ds.size=19 from NV.out.size]; exact HZ.out) ?_; refine nmW fun w3 hw3=>?_
       have x3:Ext wr w3:=by rw [← hw3]; exact (newRow wr _ zDc ds).1
       have K3:Hid (Blk w3 wr.heap.size 38 ds):=by rw [← hw3]; exact (newRow wr _ zDc ds).2
       have S3:=Lib.hid (S.out.ext x3)
       clear hw3)
    | ((with_reducible show wpList _ _ _ (Oper.mk (some 15) (.load 38 (.tmp 5)) _ _ _ _ :: _) _ _); refine wpList_ldb rfl _ _ rfl wr.heap.size 38 ds rfl K3.out _ Tryz.underlying38 rfl (by rw [show ds.size=19 from NV.out.size]; exact HZ.out) ?_)
    | (go_at_call 53; refine (cdecl_any _ hz1.1 rfl w3 g s ds p S3.out.self (NV.out.mono (vp_px (Px.of x3) hp2)) hp2).mono ?_; rintro e w5 ⟨rfl,S5⟩))
   go_roundw
   case rel=>exact ⟨i + 1,tl,_,by first | rfl | (rw [hwi]; rfl),LS.out.mono (vp_px ((Px.of x3).trans S5.px) hp2),S3.out.trans S5,E1,hz1.2⟩
   case measure=>(try rw [hwi]); rw [iof_succ,iof_nat]; exact Nat.sub_lt_sub_left hlt (Nat.lt_succ_self i)
  ·obtain rfl:=L.out.fin hlt
   have hltI:¬ (i:Int) < (N:Int):=by omega
   obtain ⟨hgz,f0,f1,f2,f3,hfz⟩:=S.out.facts
   have hsR:s=R:=hE.out
   subst hsR
   go_wp2_with fail
   go_ret
   exact ⟨rfl,Px.base X1 (by omega) S.out.px⟩
end Go.Proofs.YtmmnhbhnjiajhaaGreatDoor.c
