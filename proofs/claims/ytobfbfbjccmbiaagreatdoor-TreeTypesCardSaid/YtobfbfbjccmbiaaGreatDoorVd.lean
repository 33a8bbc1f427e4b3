/- Counting a program: contracts of the program's counter, of what is empty and of what is too large. Conditions: the counter lies in a block of its own, the nodes in others. -/
import Derived.Test.YtobfbfbjccmbiaaGreatDoorUu
import Derived.Deep.CutRange
import Derived.Deep.LoopGhost
namespace Go.Proofs.YtobfbfbjccmbiaaGreatDoor.c
open Go.RowKit
set_option linter.unusedVariables false
set_option maxRecDepth 100000
set_option maxHeartbeats 3200000
set_option linter.unusedSimpArgs false
structure Ct where
 st:Int
 ex:Int
 de:Int
 lg:Bool
def ctC (s:Ct):Array Value:=#[.int .i64 s.st,.int .i64 s.ex,.int .i64 s.de,.bool s.lg]
def Ct.x (s:Ct) (d:Nat):Ct:=⟨s.st,wrap64 (s.ex + 1),max s.de d,s.lg⟩
def Ct.s (s:Ct) (d:Nat):Ct:=⟨wrap64 (s.st + 1),s.ex,max s.de d,s.lg⟩
def Ct.big (s:Ct):Ct:=⟨s.st,s.ex,s.de,true⟩
def bgX (op:Int) (n:Nat) (s:Ct) (d:Nat):Bool:=((op == 2 && decide (4 < n)) || decide (300 < s.ex)) || decide (12 < d)
def bgS (n:Nat) (s:Ct) (d:Nat):Bool:=(decide (8 < n) || decide (60 < s.st)) || decide (12 < d)
def cnt:Nd → Nat → Ct → Ct
 | .ex op _ _ _ a b tl,d,s=>cnt tl d (if bgX op a.len (s.x d) d=true then (s.x d).big else cnt b (d + 1) (cnt a (d + 1) (s.x d)))
 | .st _ _ _ es bs cs tl,d,s=>if bgS cs.len (s.s d) d=true then (s.s d).big else cnt tl d (cnt cs (d + 1) (cnt bs (d + 1) (cnt es (d + 1) (s.s d))))
 | .bl b tl,d,s=>cnt tl d (cnt b d s)
 | .ca _ _ b tl,d,s=>cnt tl d (cnt b d s)
 | _,_,s=>s
structure Cs (g:Nat) (s:Ct) (w w':World):Prop where
 blk:Blk w' g 81 (ctC s)
 px:Px g w w'
section
variable {g:Nat} {c t:Ct} {w w1 w2:World}
theorem Cs.self (h:Cs g c w w1):Cs g c w1 w1:=⟨h.blk,Px.refl _ _⟩
theorem Cs.ext (h:Cs g c w w1) (x:Ext w1 w2):Cs g c w w2:=⟨h.blk.ext x,h.px.ext x⟩
theorem Cs.trans (h:Cs g c w w1) (k:Cs g t w1 w2):Cs g t w w2:=⟨k.blk,h.px.trans k.px⟩
theorem Cs.facts (h:Cs g c w w1):g < w1.heap.size∧w1.cell? ⟨g,0,none⟩=some (.int .i64 c.st)∧w1.cell? ⟨g,1,none⟩=some (.int .i64 c.ex)∧w1.cell? ⟨g,2,none⟩=some (.int .i64 c.de)∧w1.cell? ⟨g,3,none⟩=some (.bool c.lg)∧(∀ i,w1.frozen? ⟨g,i,none⟩=false) :=
 ⟨h.blk.lt,h.blk.cell 0,h.blk.cell 1,h.blk.cell 2,h.blk.cell 3,h.blk.frozen⟩
theorem Cs.toX (h:Cs g c w w1) (d:Nat):Cs g (c.x d) w ((w1.setCell ⟨g,1,none⟩ (.int .i64 (wrap64 (c.ex + 1)))).setCell ⟨g,2,none⟩ (.int .i64 (max c.de d))) :=
 ⟨(h.blk.set_ 1 _).set_ 2 _,(h.px.setM 1 _).setM 2 _⟩
theorem Cs.toS (h:Cs g c w w1) (d:Nat):Cs g (c.s d) w ((w1.setCell ⟨g,0,none⟩ (.int .i64 (wrap64 (c.st + 1)))).setCell ⟨g,2,none⟩ (.int .i64 (max c.de d))) :=
 ⟨(h.blk.set_ 0 _).set_ 2 _,(h.px.setM 0 _).setM 2 _⟩
theorem Cs.toB (h:Cs g c w w1):Cs g c.big w (w1.setCell ⟨g,3,none⟩ (.bool true)):=⟨h.blk.set_ 3 _,h.px.setM 3 _⟩
end
theorem vp_px {p:Nat → Prop} {g:Nat} {w w':World} (h:Px g w w') (hp:∀ b,p b → b ≠ g):(vp p w).le (vp p w'):=vp_le fun b hb hl=>⟨hb,h.block b hl (hp b hb)⟩
theorem nmW {P:World → Prop} {w:World} (h:∀ w2,w=w2 → P w2):P w:=h w rfl
theorem newRow (w:World) (t:TypeId) (zs cs:Array Value):Ext w ((w.alloc (.cells zs t)).setRow w.heap.size cs)∧Blk ((w.alloc (.cells zs t)).setRow w.heap.size cs) w.heap.size t cs :=
 ⟨((Ext.refl w).alloc _).setRow (Nat.le_refl _) _,(Blk.new w t zs).row cs⟩
theorem len_sz:∀ x:Nd,x.len ≤ x.sz
 | .nil=>Nat.le_refl _
 | .ex _ _ _ _ _ _ tl=>by have:=len_sz tl; simp only [Nd.len,Nd.sz]; omega
 | .st _ _ _ _ _ _ tl=>by have:=len_sz tl; simp only [Nd.len,Nd.sz]; omega
 | .bl _ tl=>by have:=len_sz tl; simp only [Nd.len,Nd.sz]; omega
 | .ca _ _ _ tl=>by have:=len_sz tl; simp only [Nd.len,Nd.sz]; omega
 | .pa _ _ _ tl=>by have:=len_sz tl; simp only [Nd.len,Nd.sz]; omega
 | .de _ _ _ _ _ _ tl=>by have:=len_sz tl; simp only [Nd.len,Nd.sz]; omega
theorem iof_nat (i:Nat):(intOf (Value.int IntKind.i64 (i:Int))).toNat=i:=Int.toNat_natCast i
theorem iof_succ (i:Nat):(intOf (Value.int IntKind.i64 ((i:Int) + 1))).toNat=i + 1:=Int.toNat_natCast (i + 1)
def CX (n:Nat):Prop:=∀ (x:Nd),x.sz < n → x.len=1 → ∀ (w:World) (g:Nat) (s:Ct) (d:Nat) (D:Int) (cs:Array Value) (p:Nat → Prop),D=(d:Int) → Cs g s w w → Nv (vp p w) 0 x cs → (∀ b,p b → b ≠ g) → d ≤ 13 → Calls Tryz.prog 93 #[.pointer (some ⟨g,0,none⟩),.agg cs,.int .i64 D] w fun e w'=>e=.returned (.tuple #[])∧Cs g (cnt x d s) w w'
def CB (n:Nat):Prop:=∀ (x:Nd),x.sz < n → ∀ (w:World) (g:Nat) (s:Ct) (d:Nat) (D:Int) (v:Value) (p:Nat → Prop),D=(d:Int) → Cs g s w w → Sl (vp p w) v x 1 → (∀ b,p b → b ≠ g) → d ≤ 13 → Calls Tryz.prog 94 #[.pointer (some ⟨g,0,none⟩),v,.int .i64 D] w fun e w'=>e=.returned (.tuple #[])∧Cs g (cnt x d s) w w'
theorem cnt_hd {x:Nd} (h:x=.nil ∨ ∃ o t n k a b r,x=.ex o t n k a b r) (d:Nat) (s:Ct):cnt x d s=cnt x.tl d (cnt x.hd d s):=by
 rcases h with rfl | ⟨o,t,n,k,a,b,r,rfl⟩ <;> simp [cnt,Nd.tl,Nd.hd]
theorem Elems.ex {V:Vw} {x:Nd} {xs:List Value} (h:Elems V x 0 xs):x=.nil ∨ ∃ o t n k a b r,x=.ex o t n k a b r:=by
 cases x with
 | nil=>exact .inl rfl
 | ex o t n k a b r=>exact .inr ⟨_,_,_,_,_,_,_,rfl⟩
 | st=>exact absurd h.1 (by decide)
 | bl=>exact absurd h.1 (by decide)
 | ca=>exact absurd h.1 (by decide)
 | pa=>exact absurd h.1 (by decide)
 | de=>exact absurd h.1 (by decide)
theorem Lp.ex {V:Vw} {A:Option Addr} {n i:Nat} {r:Nd} (l:Lp V A n 0 i r) (d:Nat) (s:Ct):cnt r d s=cnt r.tl d (cnt r.hd d s):=by
 obtain ⟨_,xs,_,_,h⟩:=l
 exact cnt_hd h.ex d s
theorem cx_step {n:Nat} (hn:n ≤ 4611686018427387904) (ihX:CX n) (ihB:CB n):CX (n + 1):=by
 intro x hsz h1 w g s d D cs p hD h hnv hp hd
 subst hD
 have hwd:wrap64 ((d:Int) + 1)=(d:Int) + 1:=IntWalk.wrap64_in _ (by omega)
 obtain rfl | ⟨op,ty,nm,k,a,b,r,rfl⟩:=hnv.1.ex
 ·cases h1
 obtain rfl:r=.nil:=tl_one h1
 obtain ⟨va,vb,rfl,ha,hb⟩:=nv_exI hnv
 have HZ:Hid ((Tryz.prog.info? 44).map (·.size)=some 10):=by unfold Hid; kernel_rfl
 have hsa:a.sz < n:=by simp [Nd.sz] at hsz; omega
 have hsb:b.sz < n:=by simp [Nd.sz] at hsz; omega
 obtain ⟨A,c,rfl,la⟩:=ha.lp
 have hg:g < w.heap.size:=h.blk.lt
 generalize hR:cnt (.ex op ty nm k a b .nil) d s=R
 have E:Hid (R=if bgX op a.len (s.x d) d=true then (s.x d).big else cnt b (d + 1) (cnt a (d + 1) (s.x d))):=hR.symm
 clear hR
 obtain ⟨hgz,f0,f1,f2,f3,hfz⟩:=h.facts
 have S0:=Lib.hid (h.toX d)
 go_enter Tryz.func93,Tryz.ntmps93
 go_upto_region 3 with fail
 generalize hxz:w.heap.size=xz at hg ⊢
 refine nmW fun w2 hw2=>?_
 have B1:Hid (Blk w2 xz 44 #[.int .i64 op,.int .i64 ty.base,.int .i64 ty.bits,.string ty.name,.bool ty.opt,.bool ty.err,.string nm,.int .i64 k,.slice A a.len c,vb]):=by
  rw [← hw2,← hxz]
  have q:=Blk.new ((w.setCell ⟨g,1,none⟩ (.int .i64 (wrap64 (s.ex + 1)))).setCell ⟨g,2,none⟩ (.int .i64 (max s.de d))) 44 #[.int .i64 op,.int .i64 ty.base,.int .i64 ty.bits,.string ty.name,.bool ty.opt,.bool ty.err,.string nm,.int .i64 k,.slice A a.len c,vb]
  rw [show ((w.setCell ⟨g,1,none⟩ (.int .i64 (wrap64 (s.ex + 1)))).setCell ⟨g,2,none⟩ (.int .i64 (max s.de d))).heap.size=w.heap.size by simp [World.setCell]] at q
  exact q
 have S1:Hid (Cs g (s.x d) w w2):=by rw [← hw2]; exact S0.out.ext ((Ext.refl _).alloc _)
 have hb2:Hid (Sl (vp p w2) vb b 1):=hb.mono (vp_px S1.out.px hp)
 have L2:Hid (Lp (vp p w2) A a.len 0 0 a):=la.mono (vp_px S1.out.px hp)
 clear hw2 S0 f0 f1 f2 f3 hfz hgz hnv ha la h hb
 go_cut [43] from 24 to 43 (fun c wx=>c=.bool (bgX op a.len (s.x d) d)∧wx=w2)
 case first =>
  have q0:w2.cell? ⟨xz,0,none⟩=some (.int .i64 op):=B1.out.cell 0
  have q8:w2.cell? ⟨xz,8,none⟩=some (.slice A a.len c):=B1.out.cell 8
  obtain ⟨hgz,f0,f1,f2,f3,hfz⟩:=S1.out.facts
  go_wp2_with fail
  all_goals
   (try (rename op=2=>h2; subst h2))
   go_meet
   exact ⟨congrArg Value.bool (by rw [Bool.eq_iff_iff]; simp only [bgX,Bool.or_eq_true,Bool.and_eq_true,beq_iff_eq,decide_eq_true_eq]; first | omega | (simp; omega)),rfl⟩
 case rest =>
  obtain ⟨rfl,rfl⟩:=hcut
  cases hbg:bgX op a.len (s.x d) d
  case true =>
   obtain ⟨hgz,f0,f1,f2,f3,hfz⟩:=S1.out.facts
   go_wp2_with fail
   refine bodyPost_ret (results_none rfl _ _ _) rfl ?_
   exact ⟨rfl,by rw [E.out,if_pos hbg]; exact S1.out.toB⟩
  case false =>
   have hd2:d ≤ 12:=by simp [bgX] at hbg; omega
   have q8:wc.cell? ⟨xz,8,none⟩=some (.slice A a.len c):=B1.out.cell 8
   go_wp2_with fail
   clear q8
   go_loopw [50] (fun u wr=>∃ (i:Nat) (r:Nd) (s':Ct),u=.int .i64 i∧Hid (Lp (vp p wr) A a.len 0 i r)∧Hid (Cs g s' w wr)∧Hid (Blk wr xz 44 #[.int .i64 op,.int .i64 ty.base,.int .i64 ty.bits,.string ty.name,.bool ty.opt,.bool ty.err,.string nm,.int .i64 k,.slice A a.len c,vb])∧Hid (Sl (vp p wr) vb b 1)∧Hid (cnt r (d + 1) s'=cnt a (d + 1) (s.x d))∧r.sz ≤ a.sz) (fun u _=>a.len - (intOf u).toNat)
   case atStart=>exact ⟨0,a,s.x d,rfl,L2,S1,B1,hb2,rfl,Nat.le_refl _⟩
   case round =>
    clear L2 S1 B1 hb2
    obtain ⟨i,r,s',rfl,L,S,B,hB,hE,hrz⟩:=hrel
    have hal:=len_sz a
    by_cases hlt:i < a.len
    ·obtain ⟨bb,o,ds,rfl,hnv,hc,L'⟩:=L.out.step hlt
     have hltI:(i:Int) < (a.len:Int):=by omega
     have hne:xz ≠ g:=by omega
     have NV:=Lib.hid hnv
     have HC:=Lib.hid hc
     have LS:=Lib.hid L'
     have hrl:0 < r.len:=by have:=L.out.1; omega
     have hE2:=Lib.hid ((L.out.ex (d + 1) s').symm.trans hE.out)
     have hrs:r.hd.sz < n∧r.tl.sz ≤ a.sz:=by have:=hd_sz hrl; omega
     have hwi:wrap64 ((i:Int) + 1)=(i:Int) + 1:=IntWalk.wrap64_in _ (by omega)
     clear hnv hc L' L hE hn hal hrz
     go_wp2_with (first
      | ((with_reducible show wpList _ _ _ (Oper.mk (some 53) (.load 44 (.tmp 52)) _ _ _ _ :: _) _ _); refine wpList_load_mid rfl _ _ rfl _ _ rfl ds.toList _ (fun j v hv=>(vp_some (HC.out j v hv)).2) Tryz.underlying44 rfl (by rw [Array.length_toList,show ds.size=10 from NV.out.size]; exact HZ.out) ?_; rw [Array.toArray_toList])
      | ((with_reducible show wpList _ _ _ (Oper.mk none (.store 44 (.tmp 7) _) _ _ _ _ :: _) _ _); refine wpList_store_row rfl _ _ _ rfl _ rfl _ zEx ds (Blk.new wr _ zEx) rfl NV.out.size NV.out.one (by rw [show ds.size=10 from NV.out.size]; exact HZ.out) ?_; refine nmW fun w3 hw3=>?_
         have x3:Ext wr w3:=by rw [← hw3]; exact (newRow wr _ zEx ds).1
         have K3:Hid (Blk w3 wr.heap.size 44 ds):=by rw [← hw3]; exact (newRow wr _ zEx ds).2
         have S3:=Lib.hid (S.out.ext x3)
         clear hw3)
      | ((with_reducible show wpList _ _ _ (Oper.mk (some 55) (.load 44 (.tmp 7)) _ _ _ _ :: _) _ _); refine wpList_ldb rfl _ _ rfl _ _ ds rfl K3.out _ Tryz.underlying44 rfl (by rw [show ds.size=10 from NV.out.size]; exact HZ.out) ?_)
      | (go_at_call 93; refine (ihX r.hd hrs.1 (hd_len hrl) w3 g s' (d + 1) _ ds p (by omega) S3.out.self (NV.out.mono (vp_px (Px.of x3) hp)) hp (by omega)).mono ?_; rintro e w4 ⟨rfl,S4⟩))
     go_roundw
     case rel=>exact ⟨i + 1,r.tl,_,by rw [hwi]; rfl,LS.out.mono (vp_px (S4.px.trans (Px.refl _ _) |> (Px.of x3).trans) hp),S3.out.trans S4,(B.out.ext x3).px S4.px hne,hB.out.mono (vp_px ((Px.of x3).trans S4.px) hp),hE2.out,hrs.2⟩
     case measure=>rw [hwi,iof_succ,iof_nat]; exact Nat.sub_lt_sub_left hlt (Nat.lt_succ_self i)
    ·obtain rfl:=L.out.fin hlt
     have hltI:¬ (i:Int) < (a.len:Int):=by omega
     clear hn hal hrz
     have q9:wr.cell? ⟨xz,9,none⟩=some vb:=B.out.cell 9
     go_wp2_with (first
      | (go_at_call 94; refine (ihB b hsb wr g s' (d + 1) _ vb p (by omega) S.out.self hB.out hp (by omega)).mono ?_; rintro e w4 ⟨rfl,S4⟩))
     go_end0
     exact ⟨rfl,by rw [E.out,if_neg (by rw [hbg]; exact Bool.false_ne_true),show cnt a (d + 1) (s.x d)=s' from hE.out.symm]; exact S.out.trans S4⟩
end Go.Proofs.YtobfbfbjccmbiaaGreatDoor.c
