/- The reference's equality of programs. No condition. TreeCopies: a copy shares nothing that can be changed. Condition: the package's variables lie as they do at the start. -/
import Derived.Test.YtmmnhbhnjiajhaaGreatDoorCXd
import Derived.Test.YtmmnhbhnjiajhaaGreatDoorCYf
import Derived.Test.YtmmnhbhnjiajhaaGreatDoorCYb
import Derived.Test.YtmmnhbhnjiajhaaGreatDoorCVm
namespace Go.Proofs.YtmmnhbhnjiajhaaGreatDoor.c
open Go.RowKit
set_option linter.unusedVariables false
set_option maxRecDepth 100000
set_option maxHeartbeats 12800000
set_option linter.unusedSimpArgs false
theorem wp_load_arr {op:Oper} {a:Act} {w:World} {K:Act → World → Prop} {Q:Exit → Act → World → Prop} (ty:TypeId) (x:Operand) (ho:op.op=.load ty x) (b o:Nat) (hx:a.eval x=.pointer (some ⟨b,o,none⟩)) (cs:Array Value) (d:TypeDesc) (hc:w.rangeAt b o cs.toList) (hu:Tryz.prog.underlying ty=some d) (hd:d.isRow=true) (hi:(Tryz.prog.info? ty).map (·.size)=some cs.size) (h:K (a.put op.dst (.agg cs)) w):op.wp Tryz.prog a w K Q:=by
 refine wp_load_mid ty x ho b o hx cs.toList d hc hu hd (by rw [Array.length_toList]; exact hi) ?_
 rw [Array.toArray_toList]
 exact h
theorem Lp.de1 {V:Vw} {A:Option Addr} {n i:Nat} {r:Nd} (l:Lp V A n 5 i r) (h:i < n):∃ fn nm ps ty val b tl,r=.de fn nm ps ty val b tl:=by
 obtain ⟨h1,xs,_,_,he⟩:=l
 exact he.de1 (by omega)
theorem same_any (x y:Nd) (hsz:x.sz ≤ 4611686018427387903) (w:World) (v u:Value) (p q:Nat → Prop) (hslx:Sl (vp p w) v x 5) (hsly:Sl (vp q w) u y 5):Calls Tryz.prog 13 #[v,u] w fun e w'=>e=.returned (.bool (eqN x y))∧Ext w w':=by
 obtain ⟨A,c,rfl,la⟩:=hslx.lp
 obtain ⟨A',c',rfl,lb⟩:=hsly.lp
 by_cases hne:x.len=y.len
 case neg =>
  rw [eqN_ne hne]
  have hneI:¬ (x.len:Int)=(y.len:Int):=by omega
  clear la lb hslx hsly hsz
  go_enter Tryz.func13,Tryz.ntmps13
  go_wp2_with fail
  go_ret
  exact ⟨rfl,exA⟩
 have hxl:=len_sz x
 rw [← hne] at lb ⊢
 generalize hN:x.len=N at *
 have hN1:N ≤ 4611686018427387904:=by omega
 have L0:=Lib.hid la
 have M0:=Lib.hid lb
 have X0:Hid (Ext w w):=Ext.refl w
 obtain ⟨R,hR⟩:∃ R,eqN x y=R:=⟨_,rfl⟩
 rw [hR]
 have E0:=Lib.hid hR
 clear la lb hslx hsly hR hne hN hxl
 go_enter Tryz.func13,Tryz.ntmps13
 go_wp2_with fail
 go_loopw [5] (fun u5 wr=>∃ (i:Nat) (r s:Nd),u5=.int .i64 i∧Hid (Lp (vp p wr) A N 5 i r)∧Hid (Lp (vp q wr) A' N 5 i s)∧Hid (Ext w wr)∧Hid (eqN r s=R)∧r.sz ≤ 4611686018427387903) (fun u5 _=>N - (intOf u5).toNat)
 case atStart=>exact ⟨0,x,y,rfl,L0,M0,X0,E0,hsz⟩
 case round =>
  clear L0 M0 X0 E0
  obtain ⟨i,r,s,rfl,L,M,X,hE,hrz⟩:=hrel
  by_cases hlt:i < N
  case neg =>
   obtain rfl:=L.out.fin hlt
   obtain rfl:=M.out.fin hlt
   have hltI:¬ (i:Int) < (N:Int):=by omega
   obtain rfl:R=true:=hE.out.symm
   go_wp2_with fail
   go_ret
   exact ⟨rfl,X.out⟩
  have hltI:(i:Int) < (N:Int):=by omega
  have hwi:wrap64 ((i:Int) + 1)=(i:Int) + 1:=IntWalk.wrap64_in _ (by omega)
  obtain ⟨g1,nm1,ps1,ty1,v1,b1,r1,rfl⟩:=L.out.de1 hlt
  obtain ⟨g2,nm2,ps2,ty2,v2,b2,s1,rfl⟩:=M.out.de1 hlt
  obtain ⟨bb,oo,cs,rfl,hnx,hcx,L'⟩:=L.out.step hlt
  obtain ⟨bc,oc,ds,rfl,hny,hcy,M'⟩:=M.out.step hlt
  have hrs:(Nd.de g1 nm1 ps1 ty1 v1 b1 .nil).sz ≤ 4611686018427387903∧r1.sz ≤ 4611686018427387903:=by simp only [Nd.sz] at hrz ⊢; omega
  have HE:Hid (∀ w1,Ext wr w1 → Calls Tryz.prog 36 #[.agg cs,.agg ds] w1 fun e w'=>e=.returned (.bool (eqN (.de g1 nm1 ps1 ty1 v1 b1 .nil) (.de g2 nm2 ps2 ty2 v2 b2 .nil)))∧Ext w1 w'):=fun w1 X2=>sameDecl_any _ _ hrs.1 w1 cs ds p q (hnx.mono (vp_ext X2)) (hny.mono (vp_ext X2))
  have LS:Hid (Lp (vp p wr) (some ⟨bb,oo,none⟩) N 5 (i + 1) r1):=L'
  have MS:Hid (Lp (vp q wr) (some ⟨bc,oc,none⟩) N 5 (i + 1) s1):=M'
  have E1:Hid ((eqN (.de g1 nm1 ps1 ty1 v1 b1 .nil) (.de g2 nm2 ps2 ty2 v2 b2 .nil) && eqN r1 s1)=R):=eqN_de.symm.trans hE.out
  generalize eqN (.de g1 nm1 ps1 ty1 v1 b1 .nil) (.de g2 nm2 ps2 ty2 v2 b2 .nil)=e at HE E1
  have hcs:cs.size=19:=hnx.size
  have hds:ds.size=19:=hny.size
  have HZ:Hid ((Tryz.prog.info? 38).map (·.size)=some 19):=by unfold Hid; kernel_rfl
  have HCX:=Lib.hid hcx
  have HCY:=Lib.hid hcy
  clear hnx hny hcx hcy L' M' L M hE hrz
  go_upto_region 6 with fail
  go_cut [26] from 17 to 26 (fun c wx=>c=.bool (!e)∧Hid (Ext wr wx))
  case first =>
   clear LS MS E1 X
   refine rg_begin #[false,false,false,false,false,false,false,false,false,false] rfl (by kernel_rfl) (fun _ _ _ _ _ h=>h) (fun HQ=>?_)
   (refine ta 0 17 rfl HQ ?_; try simp only [putL,List.set])
   (refine ta 1 18 rfl HQ ?_; try simp only [putL,List.set])
   (refine ta 4 21 rfl HQ ?_; try simp only [putL,List.set])
   (refine ta 5 22 rfl HQ ?_; try simp only [putL,List.set])
   (refine ta 2 19 rfl HQ ?_; try simp only [putL,List.set])
   (refine ta 6 23 rfl HQ ?_; try simp only [putL,List.set])
   refine w_br (l:=[3,7]) (by simp) ?_
   intro j hj
   simp only [List.mem_cons,List.not_mem_nil,or_false] at hj
   rcases hj with rfl | rfl
   ·refine o_wp 3 rfl rfl (wp_load_arr 38 _ rfl _ _ rfl cs _ (fun j v hv=>(vp_some (HCX.out j v hv)).2) Tryz.underlying38 rfl (by rw [hcs]; exact HZ.out) ?_)
    show wpAny _ _ _ _ _ _ (Act.put _ (some 20) _) _
    simp only [putL,List.set]
    refine w_br (l:=[7]) (by simp) ?_
    intro j hj
    simp only [List.mem_cons,List.not_mem_nil,or_false] at hj
    rcases hj with rfl
    refine o_wp 7 rfl rfl (wp_load_arr 38 _ rfl _ _ rfl ds _ (fun j v hv=>(vp_some (HCY.out j v hv)).2) Tryz.underlying38 rfl (by rw [hds]; exact HZ.out) ?_)
    show wpAny _ _ _ _ _ _ (Act.put _ (some 24) _) _
    simp only [putL,List.set]
    refine w_br (l:=[8]) (by simp) ?_
    intro j hj
    simp only [List.mem_cons,List.not_mem_nil,or_false] at hj
    subst hj
    refine o_call 8 rfl rfl (by go_simp) (HE.out _ (Ext.refl wr).drew) ?_ ?_ ?_
    ·rintro rv w6 ⟨e0,x6⟩
     cases e0
     show wpAny _ _ _ _ _ _ (Act.put _ (some 25) _) _
     simp only [putL,List.set]
     refine w_br (l:=[9]) (by simp) ?_
     intro j hj
     simp only [List.mem_cons,List.not_mem_nil,or_false] at hj
     subst hj
     refine o_val (w':=w6) 9 26 rfl (v:=.bool (!e)) (by go_simp) ?_
     simp only [putL,List.set]
     refine wp_end ?_
     go_wp2_with fail
     go_meet
     exact ⟨rfl,(Ext.refl wr).drew.trans x6⟩
    ·rintro c w6 ⟨e0,_⟩; cases e0
    ·rintro w6 ⟨e0,_⟩; cases e0
   ·refine o_wp 7 rfl rfl (wp_load_arr 38 _ rfl _ _ rfl ds _ (fun j v hv=>(vp_some (HCY.out j v hv)).2) Tryz.underlying38 rfl (by rw [hds]; exact HZ.out) ?_)
    show wpAny _ _ _ _ _ _ (Act.put _ (some 24) _) _
    simp only [putL,List.set]
    refine w_br (l:=[3]) (by simp) ?_
    intro j hj
    simp only [List.mem_cons,List.not_mem_nil,or_false] at hj
    rcases hj with rfl
    refine o_wp 3 rfl rfl (wp_load_arr 38 _ rfl _ _ rfl cs _ (fun j v hv=>(vp_some (HCX.out j v hv)).2) Tryz.underlying38 rfl (by rw [hcs]; exact HZ.out) ?_)
    show wpAny _ _ _ _ _ _ (Act.put _ (some 20) _) _
    simp only [putL,List.set]
    refine w_br (l:=[8]) (by simp) ?_
    intro j hj
    simp only [List.mem_cons,List.not_mem_nil,or_false] at hj
    subst hj
    refine o_call 8 rfl rfl (by go_simp) (HE.out _ (Ext.refl wr).drew) ?_ ?_ ?_
    ·rintro rv w6 ⟨e0,x6⟩
     cases e0
     show wpAny _ _ _ _ _ _ (Act.put _ (some 25) _) _
     simp only [putL,List.set]
     refine w_br (l:=[9]) (by simp) ?_
     intro j hj
     simp only [List.mem_cons,List.not_mem_nil,or_false] at hj
     subst hj
     refine o_val (w':=w6) 9 26 rfl (v:=.bool (!e)) (by go_simp) ?_
     simp only [putL,List.set]
     refine wp_end ?_
     go_wp2_with fail
     go_meet
     exact ⟨rfl,(Ext.refl wr).drew.trans x6⟩
    ·rintro c w6 ⟨e0,_⟩; cases e0
    ·rintro w6 ⟨e0,_⟩; cases e0
  case rest =>
   obtain ⟨rfl,X1⟩:=hcut
   cases e
   case false =>
    obtain rfl:R=false:=E1.out.symm
    go_wp2_with fail
    go_ret
    exact ⟨rfl,X.out.trans X1.out⟩
   case true =>
    have E2:Hid (eqN r1 s1=R):=E1.out
    go_wp2_with fail
    go_roundw
    case rel=>exact ⟨i + 1,r1,s1,by first | rfl | (rw [hwi]; rfl),LS.out.mono (vp_ext X1.out),MS.out.mono (vp_ext X1.out),X.out.trans X1.out,E2,hrs.2⟩
    case measure=>(try rw [hwi]); rw [iof_succ,iof_nat]; exact Nat.sub_lt_sub_left hlt (Nat.lt_succ_self i)
theorem Elems.pa4 {V:Vw} {x:Nd} {xs:List Value} (h:Elems V x 4 xs) (hl:0 < x.len):∃ nm ty kn r,x=.pa nm ty kn r:=by
 cases x with
 | nil=>simp [Nd.len] at hl
 | pa nm ty kn r=>exact ⟨nm,ty,kn,r,rfl⟩
 | ex=>exact absurd h.1 (by decide)
 | st=>exact absurd h.1 (by decide)
 | bl=>exact absurd h.1 (by decide)
 | ca=>exact absurd h.1 (by decide)
 | de=>exact absurd h.1 (by decide)
structure DeF (V:Vw) (b o:Nat) (Ap:Option Addr) (np cp:Nat) (Ae:Option Addr) (ne ce:Nat) (Ab:Option Addr) (nb cb:Nat):Prop where
 p:V b (o + 2)=some (.slice Ap np cp)
 e:V b (o + 16)=some (.slice Ae ne ce)
 b:V b (o + 18)=some (.slice Ab nb cb)
 p0:0 < np → ∃ b2 o2 t,Ap=some ⟨b2,o2,none⟩∧V b2 o2=some (.string t)
 e0:0 < ne → ∃ b2 o2 k,Ae=some ⟨b2,o2,none⟩∧V b2 (o2 + 7)=some (.int .i64 k)
 b0:0 < nb → ∃ b2 o2 k As ns cs,Ab=some ⟨b2,o2,none⟩∧V b2 o2=some (.int .i64 k)∧V b2 (o2 + 7)=some (.slice As ns cs)∧(0 < ns → ∃ b3 o3 k3,As=some ⟨b3,o3,none⟩∧V b3 o3=some (.int .i64 k3))
theorem ex_first {V:Vw} {A:Option Addr} {n c:Nat} {x:Nd} (s:Sl V (.slice A n c) x 0) (h:0 < n):∃ b o k m,A=some ⟨b,o,none⟩∧V b o=some (.int .i64 k)∧V b (o + 7)=some (.int .i64 m):=by
 obtain ⟨b,o,y,cs,e,hn,hc⟩:=s.nth h
 obtain rfl | ⟨op,ty,nm,k,a,d,r,rfl⟩:=hn.1.ex
 ·exact absurd hn.2 (by decide)
 obtain rfl:r=.nil:=tl_one hn.2
 obtain ⟨va,vb,rfl,_,_⟩:=nv_exI hn
 have h0:=hc 0 _ rfl
 have h7:=hc 7 _ rfl
 rw [Nat.zero_mul] at h0 h7
 exact ⟨b,o,op,k,e,h0,h7⟩
theorem decl_facts {V:Vw} {A:Option Addr} {n c i:Nat} {x:Nd} (s:Sl V (.slice A n c) x 5) (h:i < n):∃ b o Ap np cp Ae ne ce Ab nb cb,A=some ⟨b,o,none⟩∧DeF V b (o + i * 19) Ap np cp Ae ne ce Ab nb cb:=by
 obtain ⟨b,o,y,cs,e,hn,hc⟩:=s.nth h
 obtain ⟨fn,nm,ps,ty,val,bd,r,rfl⟩:=hn.1.de1 (by rw [hn.2]; exact Nat.one_pos)
 obtain rfl:r=.nil:=tl_one hn.2
 obtain ⟨vps,ys,vb,hds,hps,hys,hb⟩:=nv_deI hn
 obtain rfl:cs=deA fn nm vps ty ys vb:=hds
 have hy:=hys.size
 have hy1:ys.size=10:=hy
 obtain rfl | ⟨op,t2,nm2,k2,a2,b2,r2,rfl⟩:=hys.1.ex
 ·exact absurd hys.2 (by decide)
 obtain rfl:r2=.nil:=tl_one hys.2
 obtain ⟨va,vb2,rfl,ha,_⟩:=nv_exI hys
 obtain ⟨Ap,cp,rfl,_⟩:=hps.lp
 obtain ⟨Ae,ce,rfl,_⟩:=ha.lp
 obtain ⟨Ab,cb,rfl,_⟩:=hb.lp
 refine ⟨b,o,Ap,_,cp,Ae,_,ce,Ab,_,cb,e,hc 2 _ rfl,hc 16 _ rfl,hc 18 _ rfl,fun h0=>?_,fun h0=>?_,fun h0=>?_⟩
 ·obtain ⟨b3,o3,y3,cs3,e3,hn3,hc3⟩:=hps.nth h0
  obtain ⟨n3,t3,k3,r3,rfl⟩:=hn3.1.pa4 (by rw [hn3.2]; exact Nat.one_pos)
  obtain ⟨⟨_,q,eq,_⟩,_⟩:=hn3
  have h9:=hc3 0 (.string n3) (by rw [eq]; rfl)
  rw [Nat.zero_mul] at h9
  exact ⟨b3,o3,n3,e3,h9⟩
 ·obtain ⟨b3,o3,k3,m3,e3,_,h7⟩:=ex_first ha h0
  exact ⟨b3,o3,m3,e3,h7⟩
 ·obtain ⟨b3,o3,y3,cs3,e3,hn3,hc3⟩:=hb.nth h0
  obtain ⟨op3,nm3,t3,es3,bs3,ca3,r3,rfl⟩:=hn3.1.st1 (by rw [hn3.2]; exact Nat.one_pos)
  obtain rfl:r3=.nil:=tl_one hn3.2
  obtain ⟨v1,v2,v3,rfl,h1,_,_⟩:=nv_stI hn3
  obtain ⟨As,cs,rfl,_⟩:=h1.lp
  have g0:=hc3 0 _ rfl
  have g7:=hc3 7 _ rfl
  rw [Nat.zero_mul] at g0 g7
  refine ⟨b3,o3,op3,As,_,cs,e3,g0,g7,fun hq=>?_⟩
  obtain ⟨b4,o4,k4,m4,e4,f0,_⟩:=ex_first h1 hq
  exact ⟨b4,o4,k4,e4,f0⟩
structure CpW (w1:World) (A:Option Addr) (N c:Nat) (wr:World):Prop where
 ext:Ext w1 wr
 sl:∃ y:Nd,y.len=N∧Sl (vp (fz w1.heap.size wr) wr) (.slice A N c) y 5
theorem fz_w {lo b o:Nat} {w:World} {v:Value} (h:vp (fz lo w) w b o=some v):w.cell? ⟨b,o,none⟩=some v∧lo ≤ b∧b < w.heap.size∧∀ i,w.frozen? ⟨b,i,none⟩=false:=by
 obtain ⟨⟨h1,t,cs,hB⟩,h2⟩:=vp_some h
 exact ⟨h2,h1,hB.lt,hB.frozen⟩
theorem CpW.put {w1 wr:World} {A:Option Addr} {N c b o:Nat} {v u:Value} (h:CpW w1 A N c wr) (hc:vp (fz w1.heap.size wr) wr b o=some v) (hk:KV v u):CpW w1 A N c (wr.setCell ⟨b,o,none⟩ u):=by
 obtain ⟨y,hy,hs⟩:=h.sl
 obtain ⟨z,hz,ht⟩:=hs.kv (VK.set hc hk)
 exact ⟨h.ext.setCell (p:=⟨b,o,none⟩) (fz_w hc).2.1 u,z,hz.trans hy,ht⟩
theorem CpW.facts {w1 wr:World} {A:Option Addr} {N c i:Nat} (h:CpW w1 A N c wr) (hi:i < N):∃ b o Ap np cp Ae ne ce Ab nb cb,A=some ⟨b,o,none⟩∧DeF (vp (fz w1.heap.size wr) wr) b (o + i * 19) Ap np cp Ae ne ce Ab nb cb:=by
 obtain ⟨y,hy,hs⟩:=h.sl
 exact decl_facts hs hi
theorem copies_any (s:ByteArray) (w:World) (g:Laid w):Calls Tryz.prog 4 #[.string s] w fun e w'=>e=.returned (.bool true)∧Ext w w':=by
 have HK:=Lib.hid fun w1 (X:Ext w w1)=>known_any w1 (g.ext X)
 have HG:=Lib.hid g
 by_cases hs:6000 < s.size
 ·have hsI:(6000:Int) < (s.size:Int):=by omega
  clear g
  go_enter Tryz.func4,Tryz.ntmps4
  go_wp2_with (first
   | (go_at_call 10; refine (HK.out _ (Ext.refl _)).mono ?_; rintro r w1 ⟨rfl,x1⟩))
  go_ret
  exact ⟨rfl,x1⟩
 have hsI:¬ (6000:Int) < (s.size:Int):=by omega
 have HP:=Lib.hid fun w1 (X:Ext w w1)=>prs_all s w1 (g.ext X)
 obtain ⟨x,n,e,hpe⟩:∃ x n e,parsS s=(x,n,e):=⟨_,_,_,rfl⟩
 rw [hpe] at HP
 simp only at HP
 clear hpe g hs
 by_cases he:e=0
 ·subst he
  go_enter Tryz.func4,Tryz.ntmps4
  go_wp2_with (first
   | (go_at_call 11; refine (HP.out _ (Ext.refl _)).mono ?_; rintro r w1 ⟨v,rfl,hsl,x1,hxz,_⟩; have HXZ:=Lib.hid hxz; have HSL:=Lib.hid hsl; clear hxz hsl)
   | (go_at_call 14
      refine (copy_any x (Nat.lt_of_le_of_lt HXZ.out (by decide)) w1 v (fun b=>w.heap.size ≤ b∧b < w1.heap.size) (fun b hb=>hb.2) (HSL.out.mono (vp_le fun b hb hl=>⟨⟨hb,hl⟩,rfl⟩))).mono ?_
      rintro r w2 ⟨u,rfl,hu,x2⟩
      obtain ⟨A,c,rfl,_⟩:=hu.lp
      have S2:Hid (CpW w1 A x.len c w2):=⟨x2,x,rfl,hu⟩
      clear hu x2))
  have X1:=Lib.hid x1
  have hxl:x.len ≤ 1000:=Nat.le_trans (len_sz x) HXZ.out
  clear x1
  generalize hN:x.len=N at S2 hxl ⊢
  clear hN
  go_loopw [7] (fun u wr=>∃ i:Nat,u=.int .i64 i∧i ≤ N∧Hid (CpW w1 A N c wr)) (fun u _=>N - (intOf u).toNat)
  case atStart=>exact ⟨0,rfl,Nat.zero_le _,S2⟩
  case round =>
   clear S2
   obtain ⟨i,rfl,hiN,S⟩:=hrel
   by_cases hlt:i < N
   ·have hltI:(i:Int) < (N:Int):=by omega
    have hwi:wrap64 ((i:Int) + 1)=(i:Int) + 1:=IntWalk.wrap64_in _ (by omega)
    obtain ⟨b,o,Ap,np,cp,Ae,ne,ce,Ab,nb,cb,hA,F⟩:=S.out.facts hlt
    subst hA
    have q2:=(fz_w F.p).1
    go_upto_if 38 with fail
    obtain ⟨bq,hbq⟩:∃ bq,decide (0 < np)=bq:=⟨_,rfl⟩
    rw [hbq]
    go_cut [] from 39 to 45 (fun wx=>Hid (CpW w1 (some ⟨b,o,none⟩) N c wx))
    case first =>
     cases bq
     case' true=>have hnp:0 < np:=of_decide_eq_true hbq
     case' false=>have hnp:¬ 0 < np:=of_decide_eq_false hbq
     rotate_left
     ·have hnpI:(0:Int) < (np:Int):=by omega
      obtain ⟨b2,o2,t,rfl,hc⟩:=F.p0 hnp
      obtain ⟨qc,ql,qh,qf⟩:=fz_w hc
      go_wp2_with fail
      go_meet
      exact S.out.put hc (.inr (.inr ⟨_,_,rfl,rfl⟩))
     ·have hnpI:¬ (0:Int) < (np:Int):=by omega
      go_wp2_with fail
      go_meet
      exact S
    case rest =>
     clear S F q2
     have S:=hcut
     obtain ⟨b',o',Ap,np,cp,Ae,ne,ce,Ab,nb,cb,hA,F⟩:=S.out.facts hlt
     cases hA
     have q16:=(fz_w F.e).1
     go_upto_if 53 with fail
     obtain ⟨bq,hbq⟩:∃ bq,decide (0 < ne)=bq:=⟨_,rfl⟩
     rw [hbq]
     go_cut [] from 54 to 65 (fun wx=>Hid (CpW w1 (some ⟨b,o,none⟩) N c wx))
     case first =>
      cases bq
      case' true=>have hnp:0 < ne:=of_decide_eq_true hbq
      case' false=>have hnp:¬ 0 < ne:=of_decide_eq_false hbq
      rotate_left
      ·have hnpI:(0:Int) < (ne:Int):=by omega
       obtain ⟨b2,o2,t,rfl,hc⟩:=F.e0 hnp
       obtain ⟨qc,ql,qh,qf⟩:=fz_w hc
       go_wp2_with fail
       go_meet
       exact S.out.put hc (.inr (.inl ⟨_,_,rfl,rfl⟩))
      ·have hnpI:¬ (0:Int) < (ne:Int):=by omega
       go_wp2_with fail
       go_meet
       exact S
     case rest =>
      clear S F q16
      have S:=hcut
      obtain ⟨b',o',Ap,np,cp,Ae,ne,ce,Ab,nb,cb,hA,F⟩:=S.out.facts hlt
      cases hA
      have q18:=(fz_w F.b).1
      go_upto_if 72 with fail
      obtain ⟨bq,hbq⟩:∃ bq,decide (0 < nb)=bq:=⟨_,rfl⟩
      rw [hbq]
      cases bq
      case' true=>have hnp:0 < nb:=of_decide_eq_true hbq
      case' false=>have hnp:¬ 0 < nb:=of_decide_eq_false hbq
      rotate_left
      ·have hnpI:(0:Int) < (nb:Int):=by omega
       obtain ⟨b2,o2,t,As,ns,cs,rfl,hc,hc7,hc0⟩:=F.b0 hnp
       obtain ⟨qc,ql,qh,qf⟩:=fz_w hc
       have q7:=(fz_w hc7).1
       go_upto_if 82 with fail
       obtain ⟨bq,hbq⟩:∃ bq,decide (0 < ns)=bq:=⟨_,rfl⟩
       rw [hbq]
       go_cut [] from 83 to 92 (fun wx=>Hid (CpW w1 (some ⟨b,o,none⟩) N c wx∧wx.cell? ⟨b,o + i * 19 + 18,none⟩=some (.slice (some ⟨b2,o2,none⟩) nb cb)))
       case first =>
        cases bq
        case' true=>have hnq:0 < ns:=of_decide_eq_true hbq
        case' false=>have hnq:¬ 0 < ns:=of_decide_eq_false hbq
        rotate_left
        ·have hnqI:(0:Int) < (ns:Int):=by omega
         obtain ⟨b3,o3,t3,rfl,hc3⟩:=hc0 hnq
         obtain ⟨qc3,ql3,qh3,qf3⟩:=fz_w hc3
         go_wp2_with fail
         go_meet
         have hv:=VK.set hc3 (u:=.int .i64 99) (.inr (.inl ⟨_,_,rfl,rfl⟩))
         obtain ⟨v',hv1,hv2⟩:=hv _ _ _ F.b
         obtain rfl:=hv2.sl
         exact ⟨S.out.put hc3 (.inr (.inl ⟨_,_,rfl,rfl⟩)),(vp_some hv1).2⟩
        ·have hnqI:¬ (0:Int) < (ns:Int):=by omega
         go_wp2_with fail
         go_meet
         exact ⟨S.out,q18⟩
       case rest =>
        obtain ⟨S3,q18'⟩:=hcut.out
        have S4:=Lib.hid S3
        clear S F q18 hc hc7 hc0 qc ql qh qf q7 hcut S3
        obtain ⟨b',o',Ap,np,cp,Ae,ne,ce,Ab,nb',cb',hA,F⟩:=S4.out.facts hlt
        cases hA
        have hq:=(fz_w F.b).1
        rw [q18'] at hq
        obtain ⟨e1,e2,e3⟩:=Value.slice.inj (Option.some.inj hq)
        subst e1 e2 e3
        obtain ⟨b4,o4,t,As,ns,cs,e4,hc,hc7,hc0⟩:=F.b0 hnp
        cases e4
        obtain ⟨qc,ql,qh,qf⟩:=fz_w hc
        go_wp2_with fail
        go_roundw
        case rel=>exact ⟨i + 1,by first | rfl | (rw [hwi]; rfl),hlt,S4.out.put hc (.inr (.inl ⟨_,_,rfl,rfl⟩))⟩
        case measure=>(try rw [hwi]); rw [iof_succ,iof_nat]; exact Nat.sub_lt_sub_left hlt (Nat.lt_succ_self i)
      ·have hnpI:¬ (0:Int) < (nb:Int):=by omega
       go_wp2_with fail
       go_roundw
       case rel=>exact ⟨i + 1,by first | rfl | (rw [hwi]; rfl),hlt,S⟩
       case measure=>(try rw [hwi]); rw [iof_succ,iof_nat]; exact Nat.sub_lt_sub_left hlt (Nat.lt_succ_self i)
   ·obtain rfl:i=N:=by omega
    have hltI:¬ (i:Int) < (i:Int):=by omega
    go_wp2_with (first
     | (go_at_call 11; refine (HP.out _ (X1.out.trans S.out.ext)).mono ?_; rintro r w5 ⟨v5,rfl,hsl5,x5,_⟩; have HS5:=Lib.hid hsl5; clear hsl5)
     | (go_at_call 13; refine (same_any x x (Nat.le_trans HXZ.out (by decide)) w5 v v5 (fun b=>w.heap.size ≤ b∧b < w1.heap.size) _ (HSL.out.mono (vp_le fun b hb hl=>⟨⟨hb,hl⟩,(S.out.ext.trans x5).out.block b hl⟩)) HS5.out).mono ?_; rw [eqN_self]; rintro r w6 ⟨rfl,x6⟩)
     | (go_at_call 10; refine (HK.out _ (((X1.out.trans S.out.ext).trans x5).trans x6)).mono ?_; rintro r w7 ⟨rfl,x7⟩))
    go_ret
    exact ⟨rfl,(((X1.out.trans S.out.ext).trans x5).trans x6).trans x7⟩
 ·have e0:(e == 0)=false:=beq_eq_false_iff_ne.2 he
  go_enter Tryz.func4,Tryz.ntmps4
  go_wp2_with (first
   | (go_at_call 11; refine (HP.out _ (Ext.refl _)).mono ?_; rintro r w1 ⟨v,rfl,_,x1,_⟩)
   | (go_at_call 10; refine (HK.out _ x1).mono ?_; rintro r w2 ⟨rfl,x2⟩))
  go_ret
  exact ⟨rfl,x1.trans x2⟩
end Go.Proofs.YtmmnhbhnjiajhaaGreatDoor.c
