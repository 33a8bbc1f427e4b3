/- Counting statements, declarations, a program: contracts. Conditions: the counter lies in a block of its own, the nodes in others. -/
import Derived.Test.YtobfbfbjccmbiaaGreatDoorVd
namespace Go.Proofs.YtobfbfbjccmbiaaGreatDoor.c
open Go.RowKit
set_option linter.unusedVariables false
set_option maxRecDepth 100000
set_option maxHeartbeats 3200000
set_option linter.unusedSimpArgs false
theorem Elems.st1 {V:Vw} {x:Nd} {xs:List Value} (h:Elems V x 1 xs) (hl:0 < x.len):∃ o n t a b c r,x=.st o n t a b c r:=by
 cases x with
 | nil=>simp [Nd.len] at hl
 | st o n t a b c r=>exact ⟨_,_,_,_,_,_,_,rfl⟩
 | ex=>exact absurd h.1 (by decide)
 | bl=>exact absurd h.1 (by decide)
 | ca=>exact absurd h.1 (by decide)
 | pa=>exact absurd h.1 (by decide)
 | de=>exact absurd h.1 (by decide)
theorem Elems.bl1 {V:Vw} {x:Nd} {xs:List Value} (h:Elems V x 2 xs) (hl:0 < x.len):∃ b r,x=.bl b r:=by
 cases x with
 | nil=>simp [Nd.len] at hl
 | bl b r=>exact ⟨_,_,rfl⟩
 | ex=>exact absurd h.1 (by decide)
 | st=>exact absurd h.1 (by decide)
 | ca=>exact absurd h.1 (by decide)
 | pa=>exact absurd h.1 (by decide)
 | de=>exact absurd h.1 (by decide)
theorem Elems.ca1 {V:Vw} {x:Nd} {xs:List Value} (h:Elems V x 3 xs) (hl:0 < x.len):∃ l u b r,x=.ca l u b r:=by
 cases x with
 | nil=>simp [Nd.len] at hl
 | ca l u b r=>exact ⟨_,_,_,_,rfl⟩
 | ex=>exact absurd h.1 (by decide)
 | st=>exact absurd h.1 (by decide)
 | bl=>exact absurd h.1 (by decide)
 | pa=>exact absurd h.1 (by decide)
 | de=>exact absurd h.1 (by decide)
structure Bk (p:Nat → Prop) (g:Nat) (w:World) (A:Option Addr) (n i:Nat) (tl:Nd) (bx:Nat) (ds:Array Value) (va vb vc:Value) (es bs cs:Nd) (s:Ct) (wr:World):Prop where
 S:Cs g s w wr
 B:Blk wr bx 100 ds
 L:Lp (vp p wr) A n 1 (i + 1) tl
 a:Sl (vp p wr) va es 0
 b:Sl (vp p wr) vb bs 2
 c:Sl (vp p wr) vc cs 3
theorem Bk.to {p:Nat → Prop} {g:Nat} {w wr w':World} {A:Option Addr} {n i bx:Nat} {tl es bs cs:Nd} {ds:Array Value} {va vb vc:Value} {s t:Ct} (h:Bk p g w A n i tl bx ds va vb vc es bs cs s wr) (x:Px g wr w') (k:Cs g t w w') (hp:∀ b,p b → b ≠ g) (hb:bx ≠ g):Bk p g w A n i tl bx ds va vb vc es bs cs t w' :=
 ⟨k,h.B.px x hb,h.L.mono (vp_px x hp),h.a.mono (vp_px x hp),h.b.mono (vp_px x hp),h.c.mono (vp_px x hp)⟩
theorem cb_step {n:Nat} (hn:n ≤ 4611686018427387904) (ihX:CX n) (ihB:CB n):CB (n + 1):=by
 intro x hsz w g s d D v p hD h hsl hp hd
 subst hD
 have hwd:wrap64 ((d:Int) + 1)=(d:Int) + 1:=IntWalk.wrap64_in _ (by omega)
 have HZ:Hid ((Tryz.prog.info? 100).map (·.size)=some 10):=by unfold Hid; kernel_rfl
 have HX:Hid ((Tryz.prog.info? 44).map (·.size)=some 10):=by unfold Hid; kernel_rfl
 have HC3:Hid ((Tryz.prog.info? 155).map (·.size)=some 3):=by unfold Hid; kernel_rfl
 obtain ⟨A,c,rfl,la⟩:=hsl.lp
 generalize hR:cnt x d s=R
 have hg:g < w.heap.size:=h.blk.lt
 have S0:=Lib.hid h
 have L0:=Lib.hid la
 have E0:=Lib.hid hR
 have hxl:=len_sz x
 generalize hN:x.len=N at *
 have hNn:N ≤ n:=by omega
 have hxs:x.sz ≤ n:=by omega
 clear h la hR hsl hsz hN hxl
 go_enter Tryz.func94,Tryz.ntmps94
 go_wp2_with fail
 go_loopw [16] (fun u wr=>∃ (i:Nat) (r:Nd) (s':Ct),u=.int .i64 i∧Hid (Lp (vp p wr) A N 1 i r)∧Hid (Cs g s' w wr)∧Hid (cnt r d s'=R)∧r.sz ≤ n) (fun u _=>N - (intOf u).toNat)
 case atStart=>exact ⟨0,x,s,rfl,L0,S0,E0,hxs⟩
 case round =>
  clear L0 S0 E0 hxs
  obtain ⟨i,r,s',rfl,L,S,hE,hrz⟩:=hrel
  by_cases hlt:i < N
  ·have hrl:0 < r.len:=by have:=L.out.1; omega
   obtain ⟨op,nm,ty,es,bs,cs,tl,rfl⟩:∃ o n t a b c r',r=.st o n t a b c r':=by
    obtain ⟨_,xs,_,_,he⟩:=L.out
    exact he.st1 hrl
   obtain ⟨bb,o,ds,rfl,hnv,hc,L'⟩:=L.out.step hlt
   obtain ⟨va,vb,vc,hds,ha,hb,hcs⟩:=nv_stI hnv
   have hltI:(i:Int) < (N:Int):=by omega
   have hwi:wrap64 ((i:Int) + 1)=(i:Int) + 1:=IntWalk.wrap64_in _ (by omega)
   have hz1:es.sz < n∧bs.sz < n∧cs.sz < n∧tl.sz ≤ n:=by simp only [Nd.sz] at hrz; omega
   have E1:Hid (R=if bgS cs.len (s'.s d) d=true then (s'.s d).big else cnt tl d (cnt cs (d + 1) (cnt bs (d + 1) (cnt es (d + 1) (s'.s d))))):=hE.out.symm
   have NV:=Lib.hid hnv
   have HC:=Lib.hid hc
   have HD:=Lib.hid hds
   have LS:Hid (Lp (vp p wr) (some ⟨bb,o,none⟩) N 1 (i + 1) tl):=L'
   obtain ⟨A1,c1,rfl,l1⟩:=ha.lp
   obtain ⟨A2,c2,rfl,l2⟩:=hb.lp
   obtain ⟨A3,c3,rfl,l3⟩:=hcs.lp
   have Ha:=Lib.hid ha
   have Hb:=Lib.hid hb
   have Hc:=Lib.hid hcs
   have hne:wr.heap.size ≠ g:=by have:=S.out.blk.lt; omega
   clear hnv hc hds L' L hE ha hb hcs l1 l2 l3 hrz hrl
   go_upto_region 5 with (first
    | ((with_reducible show wpList _ _ _ (Oper.mk (some 19) (.load 100 (.tmp 18)) _ _ _ _ :: _) _ _); refine wpList_load_mid rfl _ _ rfl _ _ rfl ds.toList _ (fun j v hv=>(vp_some (HC.out j v hv)).2) Tryz.underlying100 rfl (by rw [Array.length_toList,show ds.size=10 from NV.out.size]; exact HZ.out) ?_; rw [Array.toArray_toList])
    | ((with_reducible show wpList _ _ _ (Oper.mk none (.store 100 (.tmp 7) _) _ _ _ _ :: _) _ _); refine wpList_store_row rfl _ _ _ rfl wr.heap.size rfl 100 zSt ds (Blk.new wr _ zSt) rfl NV.out.size NV.out.one (by rw [show ds.size=10 from NV.out.size]; exact HZ.out) ?_; refine nmW fun w3 hw3=>?_
       have x3:Ext wr w3:=by rw [← hw3]; exact (newRow wr _ zSt ds).1
       have K3:Hid (Blk w3 wr.heap.size 100 ds):=by rw [← hw3]; exact (newRow wr _ zSt ds).2
       have S3:=Lib.hid (S.out.ext x3)
       obtain ⟨hgz,f0,f1,f2,f3,hfz⟩:=S3.out.facts
       clear hw3))
   generalize wr.heap.size=bx at K3 hne ⊢
   refine nmW fun w4 hw4=>?_
   have S4:Hid (Cs g (s'.s d) w w4):=by rw [← hw4]; exact S3.out.toS d
   have K4:Hid (Bk p g w (some ⟨bb,o,none⟩) N i tl bx ds (.slice A1 es.len c1) (.slice A2 bs.len c2) (.slice A3 cs.len c3) es bs cs (s'.s d) w4):=by
    have px:Px g w3 w4:=by rw [← hw4]; exact (S3.out.self.toS d).px
    have hq:Px g wr w4:=(Px.of x3).trans px
    exact ⟨S4.out,K3.out.px px hne,LS.out.mono (vp_px hq hp),Ha.out.mono (vp_px hq hp),Hb.out.mono (vp_px hq hp),Hc.out.mono (vp_px hq hp)⟩
   clear hw4 S3 K3 x3 f0 f1 f2 f3 hfz hgz LS Ha Hb Hc HC NV S
   go_cut [50] from 36 to 50 (fun c wx=>c=.bool (bgS cs.len (s'.s d) d)∧wx=w4)
   case first =>
    have q9:w4.cell? ⟨bx,9,none⟩=some (.slice A3 cs.len c3):=by rw [K4.out.B.cell,HD.out]; rfl
    obtain ⟨hgz,f0,f1,f2,f3,hfz⟩:=S4.out.facts
    clear HD K4 S4 E1
    go_wp2_with fail
    all_goals
     go_meet
     exact ⟨congrArg Value.bool (by rw [Bool.eq_iff_iff]; simp only [bgS,Bool.or_eq_true,decide_eq_true_eq]; first | omega | (simp; omega)),rfl⟩
   case rest =>
    obtain ⟨rfl,rfl⟩:=hcut
    cases hbg:bgS cs.len (s'.s d) d
    case true =>
     obtain ⟨hgz,f0,f1,f2,f3,hfz⟩:=S4.out.facts
     go_wp2_with fail
     refine bodyPost_ret (results_none rfl _ _ _) rfl ?_
     exact ⟨rfl,by rw [E1.out,if_pos hbg]; exact S4.out.toB⟩
    case false =>
     have hd2:d ≤ 12:=by simp [bgS] at hbg; omega
     have E2:Hid (R=cnt tl d (cnt cs (d + 1) (cnt bs (d + 1) (cnt es (d + 1) (s'.s d))))):=E1.out.trans (if_neg (by rw [hbg]; exact Bool.false_ne_true))
     have HL:Hid (es.len ≤ es.sz∧bs.len ≤ bs.sz∧cs.len ≤ cs.sz):=⟨len_sz es,len_sz bs,len_sz cs⟩
     have q7:wc.cell? ⟨bx,7,none⟩=some (.slice A1 es.len c1):=by rw [K4.out.B.cell,HD.out]; rfl
     clear E1 S4 hbg
     go_wp2_with fail
     clear q7
     go_loopw [57] (fun u wr=>∃ (j:Nat) (r:Nd) (t:Ct),u=.int .i64 j∧Hid (Lp (vp p wr) A1 es.len 0 j r)∧Hid (Bk p g w (some ⟨bb,o,none⟩) N i tl bx ds (.slice A1 es.len c1) (.slice A2 bs.len c2) (.slice A3 cs.len c3) es bs cs t wr)∧Hid (cnt r (d + 1) t=cnt es (d + 1) (s'.s d))∧r.sz ≤ es.sz) (fun u _=>es.len - (intOf u).toNat)
     case atStart =>
      obtain ⟨A1',c1',e1',l1⟩:=K4.out.a.lp
      cases e1'
      exact ⟨0,es,_,rfl,l1,K4,rfl,Nat.le_refl _⟩
     case round =>
      clear K4
      obtain ⟨j,r,t,rfl,L,K,hE,hrz⟩:=hrel
      by_cases hlj:j < es.len
      ·obtain ⟨b2,o2,xs,rfl,hnv,hc,L'⟩:=L.out.step hlj
       have hljI:(j:Int) < (es.len:Int):=by omega
       have hrl:0 < r.len:=by have:=L.out.1; omega
       have hrs:r.hd.sz < n∧r.tl.sz ≤ es.sz:=by have:=hd_sz hrl; omega
       have hwj:wrap64 ((j:Int) + 1)=(j:Int) + 1:=IntWalk.wrap64_in _ (by have:=HL.out; omega)
       have NV:=Lib.hid hnv
       have HC:=Lib.hid hc
       have LS:=Lib.hid L'
       have hE2:=Lib.hid ((L.out.ex (d + 1) t).symm.trans hE.out)
       clear hnv hc L' L hE hrz
       go_wp2_with (first
        | ((with_reducible show wpList _ _ _ (Oper.mk (some 60) (.load 44 (.tmp 59)) _ _ _ _ :: _) _ _); refine wpList_load_mid rfl _ _ rfl _ _ rfl xs.toList _ (fun j v hv=>(vp_some (HC.out j v hv)).2) Tryz.underlying44 rfl (by rw [Array.length_toList,show xs.size=10 from NV.out.size]; exact HX.out) ?_; rw [Array.toArray_toList])
        | ((with_reducible show wpList _ _ _ (Oper.mk none (.store 44 (.tmp 9) _) _ _ _ _ :: _) _ _); refine wpList_store_row rfl _ _ _ rfl wr.heap.size rfl 44 zEx xs (Blk.new wr _ zEx) rfl NV.out.size NV.out.one (by rw [show xs.size=10 from NV.out.size]; exact HX.out) ?_; refine nmW fun w3 hw3=>?_
           have x3:Ext wr w3:=by rw [← hw3]; exact (newRow wr _ zEx xs).1
           have K3:Hid (Blk w3 wr.heap.size 44 xs):=by rw [← hw3]; exact (newRow wr _ zEx xs).2
           have S3:=Lib.hid (K.out.S.ext x3)
           clear hw3)
        | ((with_reducible show wpList _ _ _ (Oper.mk (some 62) (.load 44 (.tmp 9)) _ _ _ _ :: _) _ _); refine wpList_ldb rfl _ _ rfl wr.heap.size 44 xs rfl K3.out _ Tryz.underlying44 rfl (by rw [show xs.size=10 from NV.out.size]; exact HX.out) ?_)
        | (go_at_call 93; refine (ihX r.hd hrs.1 (hd_len hrl) w3 g t (d + 1) _ xs p (by omega) S3.out.self (NV.out.mono (vp_px (Px.of x3) hp)) hp (by omega)).mono ?_; rintro e w5 ⟨rfl,S5⟩))
       go_roundw
       case rel=>exact ⟨j + 1,r.tl,_,by rw [hwj]; rfl,LS.out.mono (vp_px ((Px.of x3).trans S5.px) hp),K.out.to ((Px.of x3).trans S5.px) (S3.out.trans S5) hp hne,hE2.out,hrs.2⟩
       case measure=>rw [hwj,iof_succ,iof_nat]; exact Nat.sub_lt_sub_left hlj (Nat.lt_succ_self j)
      ·obtain rfl:=L.out.fin hlj
       have hljI:¬ (j:Int) < (es.len:Int):=by omega
       have E3:Hid (R=cnt tl d (cnt cs (d + 1) (cnt bs (d + 1) t))):=by rw [show t=cnt es (d + 1) (s'.s d) from hE.out]; exact E2.out
       have q8:wr.cell? ⟨bx,8,none⟩=some (.slice A2 bs.len c2):=by rw [K.out.B.cell,HD.out]; rfl
       clear E2 hE L hrz
       go_wp2_with fail
       clear q8
       go_loopw [70] (fun u wr=>∃ (j:Nat) (r:Nd) (t2:Ct),u=.int .i64 j∧Hid (Lp (vp p wr) A2 bs.len 2 j r)∧Hid (Bk p g w (some ⟨bb,o,none⟩) N i tl bx ds (.slice A1 es.len c1) (.slice A2 bs.len c2) (.slice A3 cs.len c3) es bs cs t2 wr)∧Hid (cnt r (d + 1) t2=cnt bs (d + 1) t)∧r.sz ≤ bs.sz) (fun u _=>bs.len - (intOf u).toNat)
       case atStart =>
        obtain ⟨A1',c1',e1',l1⟩:=K.out.b.lp
        cases e1'
        exact ⟨0,bs,_,rfl,l1,K,rfl,Nat.le_refl _⟩
       case round =>
        clear K
        obtain ⟨j,r,t2,rfl,L,K,hE,hrz⟩:=hrel
        by_cases hlj:j < bs.len
        ·have hrl:0 < r.len:=by have:=L.out.1; omega
         obtain ⟨body,rt,rfl⟩:∃ b r',r=.bl b r':=by
          obtain ⟨_,ys,_,_,he⟩:=L.out
          exact he.bl1 hrl
         obtain ⟨b2,o2,xs,rfl,hnv,hc,L'⟩:=L.out.step hlj
         obtain ⟨vk,rfl,hbody⟩:=nv_blI hnv
         have hljI:(j:Int) < (bs.len:Int):=by omega
         have hrs:body.sz < n∧rt.sz ≤ bs.sz:=by simp only [Nd.sz] at hrz; omega
         have hwj:wrap64 ((j:Int) + 1)=(j:Int) + 1:=IntWalk.wrap64_in _ (by have:=HL.out; omega)
         have qk:wr.cell? ⟨b2,o2 + j,none⟩=some vk:=by have:=(vp_some (hc 0 vk rfl)).2; rwa [show o2 + j * szK 2 + 0=o2 + j from (congrArg (o2 + ·) (Nat.mul_one j))] at this
         have LS:Hid (Lp (vp p wr) (some ⟨b2,o2,none⟩) bs.len 2 (j + 1) rt):=L'
         have hE2:Hid (cnt rt (d + 1) (cnt body (d + 1) t2)=cnt bs (d + 1) t):=hE.out
         have HB:=Lib.hid hbody
         clear hnv hc L' L hE hrz hbody
         go_wp2_with (first
          | (go_at_call 94; refine (ihB body hrs.1 wr g t2 (d + 1) _ vk p (by omega) K.out.S.self HB.out hp (by omega)).mono ?_; rintro e w5 ⟨rfl,S5⟩))
         go_roundw
         case rel=>exact ⟨j + 1,rt,_,by rw [hwj]; rfl,LS.out.mono (vp_px S5.px hp),K.out.to S5.px (K.out.S.trans S5) hp hne,hE2.out,hrs.2⟩
         case measure=>rw [hwj,iof_succ,iof_nat]; exact Nat.sub_lt_sub_left hlj (Nat.lt_succ_self j)
        ·obtain rfl:=L.out.fin hlj
         have hljI:¬ (j:Int) < (bs.len:Int):=by omega
         have E4:Hid (R=cnt tl d (cnt cs (d + 1) t2)):=by rw [show t2=cnt bs (d + 1) t from hE.out]; exact E3.out
         have q9:wr.cell? ⟨bx,9,none⟩=some (.slice A3 cs.len c3):=by rw [K.out.B.cell,HD.out]; rfl
         clear E3 hE L hrz
         go_wp2_with fail
         clear q9
         go_loopw [83] (fun u wr=>∃ (j:Nat) (r:Nd) (t3:Ct),u=.int .i64 j∧Hid (Lp (vp p wr) A3 cs.len 3 j r)∧Hid (Bk p g w (some ⟨bb,o,none⟩) N i tl bx ds (.slice A1 es.len c1) (.slice A2 bs.len c2) (.slice A3 cs.len c3) es bs cs t3 wr)∧Hid (cnt r (d + 1) t3=cnt cs (d + 1) t2)∧r.sz ≤ cs.sz) (fun u _=>cs.len - (intOf u).toNat)
         case atStart =>
          obtain ⟨A1',c1',e1',l1⟩:=K.out.c.lp
          cases e1'
          exact ⟨0,cs,_,rfl,l1,K,rfl,Nat.le_refl _⟩
         case round =>
          clear K
          obtain ⟨j,r,t3,rfl,L,K,hE,hrz⟩:=hrel
          by_cases hlj:j < cs.len
          ·have hrl:0 < r.len:=by have:=L.out.1; omega
           obtain ⟨lo,up,body,rt,rfl⟩:∃ l u b r',r=.ca l u b r':=by
            obtain ⟨_,ys,_,_,he⟩:=L.out
            exact he.ca1 hrl
           obtain ⟨b2,o2,xs,rfl,hnv,hc,L'⟩:=L.out.step hlj
           obtain ⟨vk,hxs,hbody⟩:=nv_caI hnv
           have hljI:(j:Int) < (cs.len:Int):=by omega
           have hrs:body.sz < n∧rt.sz ≤ cs.sz:=by simp only [Nd.sz] at hrz; omega
           have hwj:wrap64 ((j:Int) + 1)=(j:Int) + 1:=IntWalk.wrap64_in _ (by have:=HL.out; omega)
           have NV:=Lib.hid hnv
           have HC:=Lib.hid hc
           have HXS:=Lib.hid hxs
           have LS:Hid (Lp (vp p wr) (some ⟨b2,o2,none⟩) cs.len 3 (j + 1) rt):=L'
           have hE2:Hid (cnt rt (d + 1) (cnt body (d + 1) t3)=cnt cs (d + 1) t2):=hE.out
           have HB:=Lib.hid hbody
           clear hnv hc L' L hE hrz hbody hxs
           go_wp2_with (first
            | ((with_reducible show wpList _ _ _ (Oper.mk (some 86) (.load 155 (.tmp 85)) _ _ _ _ :: _) _ _); refine wpList_load_mid rfl _ _ rfl _ _ rfl xs.toList _ (fun j v hv=>(vp_some (HC.out j v hv)).2) Tryz.underlying155 rfl (by rw [Array.length_toList,show xs.size=3 from NV.out.size]; exact HC3.out) ?_; rw [Array.toArray_toList])
            | ((with_reducible show wpList _ _ _ (Oper.mk none (.store 155 (.tmp 13) _) _ _ _ _ :: _) _ _); refine wpList_store_row rfl _ _ _ rfl wr.heap.size rfl 155 #[.int .i64 0,.int .i64 0,.slice none 0 0] xs (Blk.new wr _ _) rfl NV.out.size NV.out.one (by rw [show xs.size=3 from NV.out.size]; exact HC3.out) ?_; refine nmW fun w3 hw3=>?_
               have x3:Ext wr w3:=by rw [← hw3]; exact (newRow wr _ _ xs).1
               have k3:Blk w3 wr.heap.size 155 xs:=by rw [← hw3]; exact (newRow wr _ _ xs).2
               have q2:w3.cell? ⟨wr.heap.size,2,none⟩=some vk:=by rw [k3.cell,HXS.out]; rfl
               have S3:=Lib.hid (K.out.S.ext x3)
               clear hw3)
            | (go_at_call 94; refine (ihB body hrs.1 w3 g t3 (d + 1) _ vk p (by omega) S3.out.self (HB.out.mono (vp_px (Px.of x3) hp)) hp (by omega)).mono ?_; rintro e w5 ⟨rfl,S5⟩))
           go_roundw
           case rel=>exact ⟨j + 1,rt,_,by rw [hwj]; rfl,LS.out.mono (vp_px ((Px.of x3).trans S5.px) hp),K.out.to ((Px.of x3).trans S5.px) (S3.out.trans S5) hp hne,hE2.out,hrs.2⟩
           case measure=>rw [hwj,iof_succ,iof_nat]; exact Nat.sub_lt_sub_left hlj (Nat.lt_succ_self j)
          ·obtain rfl:=L.out.fin hlj
           have hljI:¬ (j:Int) < (cs.len:Int):=by omega
           have E5:Hid (cnt tl d t3=R):=by rw [show t3=cnt cs (d + 1) t2 from hE.out]; exact E4.out.symm
           clear E4 hE L hrz
           go_wp2_with fail
           go_roundw
           case rel=>exact ⟨i + 1,tl,t3,rfl,K.out.L,K.out.S,E5,hz1.2.2.2⟩
           case measure=>rw [iof_succ,iof_nat]; exact Nat.sub_lt_sub_left hlt (Nat.lt_succ_self i)
  ·obtain rfl:=L.out.fin hlt
   have hltI:¬ (i:Int) < (N:Int):=by omega
   go_wp2_with fail
   go_end0
   exact ⟨rfl,by rw [← hE.out]; exact S.out⟩
theorem cnt_all:∀ n,n ≤ 4611686018427387904 → CX n∧CB n
 | 0,_=>⟨fun x h=>absurd h (by omega),fun x h=>absurd h (by omega)⟩
 | n + 1,h=>have ih:=cnt_all n (by omega); ⟨cx_step (by omega) ih.1 ih.2,cb_step (by omega) ih.1 ih.2⟩
end Go.Proofs.YtobfbfbjccmbiaaGreatDoor.c
