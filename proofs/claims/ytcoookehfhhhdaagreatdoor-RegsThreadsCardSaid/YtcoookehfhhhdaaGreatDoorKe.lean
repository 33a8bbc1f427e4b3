/- Contract of the stack machine's run. Conditions: right code. -/
import Derived.Test.YtcoookehfhhhdaaGreatDoorKz
import Derived.Deep.LoopGhost
import Derived.Deep.CutRange
import Derived.Deep.CutBlock
import Derived.Deep.RegionHeld3
namespace Go.Proofs.YtcoookehfhhhdaaGreatDoor.c
open Go.RowKit
set_option linter.unusedVariables false
set_option maxRecDepth 100000
set_option maxHeartbeats 64000000
set_option linter.unusedSimpArgs false
theorem kcall_step (l:List Fc) (A:Option Addr) (len cap:Nat) (ck:Bool) (wb:World) (d:Nat) (hlen:len=l.length) (hval:validS l=0) (hsnd:∀ k,k < l.length → unsoundS (l.getD k default).code < 0) (hA:FcAt wb A l) (hd:d ≤ 30) (IH:KCall l A len cap ck wb (d + 1)):KCall l A len cap ck wb d:=by
 intro k av s w0 vA vn vc vC L h en t hk hvn hav hs hx hL hc hv hr
 have hr:=hr.inv_enter hd
 have hvp:=valid_parts hval
 obtain ⟨f,hf⟩:∃ f,f=l.getD k default:=⟨_,rfl⟩
 have hkl:k < l.length:=by omega
 have hfm:f ∈ l:=by rw [hf]; exact getD_mem hkl
 obtain ⟨hp0,hpp,hcl,hinst⟩:=fcS_parts (valid_fc hval hfm)
 have hp200:=hvp.2.2.1 f hfm
 have hun:=hsnd k hkl
 rw [← hf] at hun hav
 obtain ⟨b,off,hAe,hb,c0,c1,c2,c3,c4,c5,c6,c7,c8,hcd⟩:=(hA.ext hx).at_ (k:=k) hkl hf
 obtain ⟨np,hnp⟩:∃ np:Nat,f.places=np:=⟨f.places.toNat,by omega⟩
 rw [hnp] at c2
 obtain ⟨gL,capL,hvC,hrL⟩:=hc
 subst hvC
 have hLk:k < L.length:=by omega
 have cL:=hrL.cell (k:=k) (j:=0) hLk (by decide)
 have zL0:=hrL.lt
 have HRL:=Lib.hid hrL
 have HZI:=Lib.hid sizeIt
 have HZL:=Lib.hid sizeLog
 have HV:=Lib.hid hv
 have HR:=Lib.hid hr
 have HF:=Lib.hid hf
 have HCD:=Lib.hid hcd
 have HLN:=Lib.hid hlen
 have HL:=Lib.hid hL
 have HX:=Lib.hid hx
 have HIH:=Lib.hid IH
 have HA:=Lib.hid hA
 have HNP:=Lib.hid hnp
 have HAV:=Lib.hid hav
 have HUN:=Lib.hid hun
 have HIN:=Lib.hid hinst
 have HVAL:=Lib.hid hval
 have HFM:=Lib.hid hfm
 have HVN:=Lib.hid hvn
 have hl48:len ≤ 48:=by have:=hvp.1; omega
 have hkb:(k:Int) < (len:Int):=by omega
 have hd3:¬ (30:Int) < (d:Int):=by omega
 have hnp2:np ≤ 200:=by omega
 subst hAe
 unfold logA
 rw [hL]
 clear hr hf hcd hlen hL hx IH hA hnp hav hun hinst hval hfm hvn hv hp0 hpp hcl hp200 hvp hkl hrL hsnd c0 c1 c3 c4 c5 c6 c7
 go_enter Tryz.func73,Tryz.ntmps73
 go_wp2_with (first
  | (at_builtin
     refine wpList_append_ns rfl _ _ rfl (w0.heap.size + 1 + 1 + 1) _ ([]:List Int) L rfl (own_nothing _ _ _ _ _ (by simp) (Nat.le_refl _)) gL len capL HL.out.symm rfl (HRL.out.ext exA) (by have:=HL.out; simp; omega) (by simp) ?_))
 intro v' w3 ow gr
 obtain ⟨gc,capc,hv',hgc,hrc⟩:=own_rec (c:=([] ++ L:List Int)) ow (by have:=HL.out; simp; omega)
 subst hv'
 simp only [List.nil_append] at hrc
 have X3:Hid (Ext (((w0.alloc (.cells #[.int .i64 0,.int .i64 0,.int .i64 s,.slice (some ⟨gL,0,none⟩) len capL,.int .i64 h,.slice none 0 0,.int .i64 (-1)] 89)).alloc (.cells #[.int .i64 0,.bool false,.string ⟨#[]⟩] 86)).alloc (.cells #[.int .i64 0,.int .i64 0,.int .i64 0,.slice none 0 0,.int .i64 0,.slice none 0 0,.int .i64 0] 89)) w3) :=
  ((Ext.refl _).alloc _).grown gr (fun q e=>by cases e; simp)
 have HRC:=Lib.hid hrc
 have hLL:([] ++ L:List Int).length=len:=by have:=HL.out; simpa using this
 rw [hLL]
 have B2:Hid (Blk w3 (w0.heap.size + 1 + 1) 89 zL):=(new3 _ _ _ _ _:Blk _ _ _ zL).ext X3.out
 have B1:Hid (Blk w3 (w0.heap.size + 1) 86 zI):=(Blk.alloc (new2 _ _ _ _) _:Blk _ _ _ zI).ext X3.out
 have B0:Hid (Blk w3 w0.heap.size 89 (logA 0 0 s (.slice (some ⟨gL,0,none⟩) len capL) h)):=(((Blk.new _ _ _).alloc _).alloc _:Blk _ _ _ (logA 0 0 s (.slice (some ⟨gL,0,none⟩) len capL) h)).ext X3.out
 have X0:Hid (Ext w0 w3):=((((Ext.refl w0).alloc _).alloc _).alloc _).trans X3.out
 obtain ⟨z,hz⟩:∃ z,z=w0.heap.size:=⟨_,rfl⟩
 rw [← hz] at B0 B1 B2 hgc ⊢
 have hzz:w0.heap.size ≤ z:=by omega
 have zb3:b < w3.heap.size:=Nat.lt_of_lt_of_le hb X0.out.size
 have hbz:b ≠ z:=by omega
 have hbg:b ≠ gc:=by omega
 have hgz:gc ≠ z:=by omega
 have cc2:w3.cell? ⟨b,off + k * 9 + 2,none⟩=some (.int .i64 np):=(X0.out.cell (p:=⟨b,off + k * 9 + 2,none⟩) hb).trans c2
 have cr:w3.cell? ⟨gc,k,none⟩=some (.int .i64 (L.getD k default)):=by have h9:=HRC.out.cell (k:=k) (j:=0) hLk (by decide); simpa [intC] using h9
 have fr9:=HRC.out.frozen k
 have zg:=HRC.out.lt
 obtain ⟨z0,i0,i1,i2,i3,i4,i5,i6,fz⟩:=log_facts B0.out
 have fz3:=fz 3
 have hmk:=fun w'=>run_make_its w' np (by omega)
 have HC8:Hid (b < w0.heap.size∧w0.cell? ⟨b,off + k * 9 + 8,none⟩=some (.slice f.A f.code.length f.cap)):=⟨hb,c8⟩
 clear ow gr hrc hz hLL X3 fz cL zL0 c2 hb c8
 go_wp2_with fail
 have S0:Hid (SkSt w0 z len 0 0 s (.slice (some ⟨gc,0,none⟩) len capc) h w3.heap.size (List.replicate np default) (w3.heap.size + 1) (.slice none 0 0) [] (((w3.setCell ⟨z,3,none⟩ (.slice (some ⟨gc,0,none⟩) len capc)).setCell ⟨gc,k,none⟩ (.int .i64 (wrap64 (L[k] + 1)))).alloc (.cells (zits np) 86))):=by
  have hz3:=B2.out.lt
  refine ⟨((X0.out.setCell (p:=⟨z,3,none⟩) hzz _).setCell (p:=⟨gc,k,none⟩) (show w0.heap.size ≤ gc by omega) _).alloc _,((B0.out.set_ 3 _).far (p:=⟨gc,k,none⟩) (show z ≠ gc by omega) _).alloc _,((B1.out.far (p:=⟨z,3,none⟩) (show z + 1 ≠ z by omega) _).far (p:=⟨gc,k,none⟩) (show z + 1 ≠ gc by omega) _).alloc _,
   ((B2.out.far (p:=⟨z,3,none⟩) (show z + 1 + 1 ≠ z by omega) _).far (p:=⟨gc,k,none⟩) (show z + 1 + 1 ≠ gc by omega) _).alloc _,⟨L.set k (wrap64 (L[k] + 1)),by simpa using HL.out,gc,capc,by rw [List.length_set,HL.out],?_⟩,?_,World.ownsRow_nil _ _ _ _,hzz,by omega,by omega,by simp⟩
  ·have h9:=(HRC.out.far (p:=⟨z,3,none⟩) (show gc ≠ z by omega) (.slice (some ⟨gc,0,none⟩) len capc)).set_ (k:=k) (j0:=0) hLk (by decide) (u:=.int .i64 (wrap64 (L[k] + 1))) (x':=wrap64 (L[k] + 1)) (fun j hj=>by rw [if_pos (by omega)]; rfl)
   rw [Nat.mul_one,Nat.add_zero] at h9
   exact h9.ext ((Ext.refl _).alloc _)
  ·exact its_row (blk_newer (by simp))
 generalize ((w3.setCell ⟨z,3,none⟩ (.slice (some ⟨gc,0,none⟩) len capc)).setCell ⟨gc,k,none⟩ (.int .i64 (wrap64 (L[k] + 1)))).alloc (.cells (zits np) 86)=w4 at S0 ⊢
 generalize w3.heap.size + 1=base at S0
 generalize w3.heap.size=gp at S0 ⊢
 clear B0 B1 B2 X0 HRC hmk i0 i1 i2 i3 i4 i5 i6 fz3 z0 zg fr9 cr cc2 zb3 hbz hbg hgz hgc
 go_loopw [15] (fun i wr=>∃ (q:Nat) (PL:List Val),q ≤ vn∧i=.int .i64 q∧PL.length=np∧(∀ i,PL.getD i default=if i < q then av.getD i default else default)∧SkSt w0 z len 0 0 s (.slice (some ⟨gc,0,none⟩) len capc) h gp PL base (.slice none 0 0) [] wr) (fun i _=>vn - (intOf i).toNat)
 case atStart=>exact ⟨0,_,Nat.zero_le _,rfl,by simp,fun i=>by rw [if_neg (by omega)]; simp only [List.getD,List.getElem?_replicate]; split <;> rfl,S0.out⟩
 case round =>
  clear S0
  obtain ⟨q,PL,hq,rfl,hpl,hpg,hs1⟩:=hrel
  have S1:=Lib.hid hs1
  have HPG:=Lib.hid hpg
  have HPL:=Lib.hid hpl
  by_cases hlt:q < vn
  ·obtain ⟨bv,ov,rfl,hbv,hvc⟩:=HV.out (by have:=HVN.out; omega)
   have hqa:q < av.length:=by have:=HVN.out; omega
   have hqn:(q:Int) < (np:Int):=by
    have h1:=HAV.out
    have h2:=HNP.out
    have h3:=(fcS_parts (valid_fc HVAL.out HFM.out)).2.1
    omega
   obtain ⟨u,hu⟩:∃ u,av.getD q default=u:=⟨_,rfl⟩
   have HVR:Hid (wr.rangeAt bv (ov + q * 3) (itA u).toList):=by
    intro j v hv
    have hj:j < 3:=(List.getElem?_eq_some_iff.1 hv).1
    have h9:=hvc q j hqa hj
    simp only [hu] at h9
    have h8:=(hs1.x.cell (p:=⟨bv,ov + (q * 3 + j),none⟩) hbv).trans h9
    rw [Nat.add_assoc,h8,← hv]
    match j,hj with
    | 0,_ | 1,_ | 2,_=>rfl
   have HU:=Lib.hid hu
   clear hs1 hpg hpl hvc hu
   go_wp2_with (first
    | ((with_reducible show wpList _ _ _ (Oper.mk (some 59) (.load 86 (.tmp 58)) _ _ _ _ :: _) _ _); refine wpList_load_mid rfl 86 _ rfl bv (ov + q * 3) rfl (itA u).toList _ HVR.out Tryz.underlying86 rfl HZI.out ?_)
    | ((with_reducible show wpList _ _ _ (Oper.mk none (.store 86 (.tmp 60) _) _ _ _ _ :: _) _ _); refine wpList_store_mid rfl 86 _ _ rfl gp (q * 3) (itA u).toList.toArray rfl rfl (S1.out.pl.there (by have:=HPL.out; omega)) HZI.out (itA_all u) ?_))
   have S2:=Lib.hid (S1.out.place (cells_grown _ gp (q * 3) _) (S1.out.pl.put (k:=q) (by have:=HPL.out; omega) u))
   go_roundw
   case rel =>
    refine ⟨q + 1,PL.set q u,by omega,by go_num,by simpa using HPL.out,fun i=>?_,S2.out⟩
    have hql:q < PL.length:=by have:=HPL.out; omega
    by_cases e:i=q
    ·subst e
     rw [if_pos (by omega),HU.out]
     simp [List.getD,hql]
    ·have h9:=HPG.out i
     have e2:(PL.set q u).getD i default=PL.getD i default:=by simp only [List.getD,List.getElem?_set_ne (fun e2=>e e2.symm)]
     rw [e2,h9]
     by_cases e3:i < q
     ·rw [if_pos e3,if_pos (by omega)]
     ·rw [if_neg e3,if_neg (by omega)]
   case measure=>simp [intOf]; omega
  ·obtain rfl:q=vn:=by omega
   have hPP:(fun i=>PL.getD i default)=fun i=>av.getD i default:=by
    funext i
    rw [hpg]
    by_cases e:i < q
    ·rw [if_pos e]
    ·rw [if_neg e,List.getD,List.getElem?_eq_none (by have:=HVN.out; omega)]; rfl
   have HR0:Hid (RunK l ck (.at_ d k 0 (fun i=>PL.getD i default) []) s en t):=by rw [hPP]; exact HR.out
   obtain ⟨z0,_,_,_,_,_,_,i6,_⟩:=log_facts S1.out.bl
   clear hs1 hpg hpl hPP HPG HR HV HVN HAV HL
   go_upto_region 11 with fail
   go_cut [67] from 61 to 67 (fun c wx=>c=.bool false∧wx=wr)
   case first =>
    by_cases hd1:(d:Int)=1
    ·go_wp2_with fail
     go_meet
     case rel=>exact ⟨rfl,rfl⟩
    ·go_wp2_with fail
     go_meet
     case rel=>exact ⟨rfl,rfl⟩
   case rest =>
    obtain ⟨rfl,rfl⟩:=hcut
    clear z0 i6
    obtain ⟨nc,hnc⟩:∃ nc,nc=f.code.length:=⟨_,rfl⟩
    have HNC:=Lib.hid hnc
    clear hnc
    go_wp2_with fail
    go_loopg [16,17] 40001 (fun n v i wr=>∃ (p:Nat) (PL K:List Val) (s':Nat) (vC:Value) (h':Int),i=.int .i64 p∧p < nc∧Reach f.code ((p:Int),(K.length:Int))∧s' ≤ 40000∧40001 - s' ≤ n∧PL.length=np∧SkSt w0 z len 0 0 s' vC h' gp PL base v K wr∧RunK l ck (.at_ d k p (fun i=>PL.getD i default) K) s' en t)
    case atStart=>exact ⟨0,PL,[],s,_,_,rfl,by have:=(fcS_parts (valid_fc HVAL.out HFM.out)).2.2.1; have:=HNC.out; omega,Reach.start,hs,by omega,HPL.out,S1.out,HR0.out⟩
    case round =>
     clear S1 HR0 HPL hs
     obtain ⟨p,PL,K,s,vC,h,rfl,hp,hre,hs,hgk,hpl,hs1,hr⟩:=hrel
     as_aux_lemma =>
      have S1:=Lib.hid hs1
      have HRE:=Lib.hid hre
      have HPL:=Lib.hid hpl
      have HR:=Lib.hid hr
      obtain ⟨vA2,vcap,hvv,_⟩:=own_slice hs1.st
      subst hvv
      have HV1:Hid (vC.oneCell'=true):=by obtain ⟨_,_,hc⟩:=hs1.cl; exact hc.one
      obtain ⟨z0,i0,i1,i2,i3,i4,i5,i6,fz⟩:=log_facts hs1.bl
      have fz0:=fz 0
      have fz2:=fz 2
      clear hs1 hre hpl hr fz
      by_cases hfull:s=40000
      ·subst hfull
       have S9:Hid (SkSt w0 z len 2 0 40000 vC h gp PL base (.slice vA2 K.length vcap) K (wr.setCell ⟨z,0,none⟩ (.int .i64 2))):=S1.out.log (cell_grown wr z 0 (.int .i64 2)) (S1.out.bl.set_ 0 (.int .i64 2)) S1.out.cl
       obtain ⟨he,ht⟩:=HR.out.inv_full (by omega)
       subst he ht
       go_wp2_with fail
       clear i0 i1 i2 i3 i4 i5 i6
       refine flow_begin (EndSt w0 z len 2 0 40000 vC h (itA default)) #[false,false,false,false] rfl (by kernel_rfl) (fun _ _ _ _ _ h=>h) (S9.out.endS) (fun HQ=>?_)
       have HST:∀ (i:Nat) (_:i ≠ 2:=by decide) (_:i ≠ 3:=by decide) (l:Array Bool) (w':World),EndSt w0 z len 2 0 40000 vC h (itA default) (l.setIfInBounds i true) w' ↔ EndSt w0 z len 2 0 40000 vC h (itA default) l w':=fun i h2 h3 l w'=>EndSt.other h2 h3
       (refine tp 0 82 rfl HQ (HST 0) ?_; try simp only [putL,List.set])
       refine flow_take (i:=1) (t:=83) (oi:=⟨some 83,_,_,_,_,_⟩) rfl rfl (by kernel_rfl) (by kernel_rfl) (by kernel_rfl) HQ (HST 1) (does_load (by rfl) 89 _ rfl z 0 rfl (logA 2 0 40000 vC h).toList _ (fun l w' hF=>hF.bl.all) Tryz.underlying89 rfl HZL.out) ?_
       try simp only [putL,List.set]
       refine flow_put (i:=2) (oi:=⟨none,_,_,_,_,none⟩) rfl rfl (stores_mid (i:=2) rfl 86 _ _ rfl (z + 1) 0 ((itA default)) rfl rfl (fun l w' h=>h.there1 rfl) HZI.out (itA_all _) (fun l w' h=>h.put1 rfl)) (by kernel_rfl) ?_
       try simp only [Array.set!,Array.setIfInBounds,putL,List.set]
       refine flow_store1 (i:=3) (oi:=⟨none,_,_,_,_,none⟩) rfl rfl (stores_mid (i:=3) rfl 89 _ _ rfl (z + 2) 0 (logA 2 0 40000 vC h) rfl rfl (fun l w' h=>h.there2) HZL.out (logA_all _ _ _ _ HV1.out) (fun l w' h=>h.put2)) (by kernel_rfl) (by kernel_rfl) (fun w9 h9=>?_)
       clear HST HQ
       go_wp2_with fail
       exact bodyPost_ret (results_row_row rfl _ _ (z + 1) 86 ((itA default)) (0,0) _ rfl (h9.res.1) Tryz.underlying86 rfl HZI.out (z + 2) 89 (logA 2 0 40000 vC h) (0,0) _ rfl (h9.res.2) Tryz.underlying89 rfl HZL.out) rfl ⟨_,rfl,h9.log,h9.x⟩
      ·have hfull2:¬ ((s:Int)=40000):=by omega
       have hfb:((s:Int) == 40000)=false:=by simpa using hfull2
       have hs1:IntKind.i64.wrap ((s:Int) + 1)=((s + 1:Nat):Int):=by rw [IntWalk.i64_in _ (by omega)]; omega
       go_upto_if 89 with fail
       have S2:Hid (SkSt w0 z len 0 0 (s + 1) vC h gp PL base (.slice vA2 K.length vcap) K (wr.setCell ⟨z,2,none⟩ (.int .i64 ((s:Int) + 1)))):=S1.out.log (cell_grown wr z 2 (.int .i64 ((s:Int) + 1))) (S1.out.bl.set_ 2 (.int .i64 ((s:Int) + 1))) S1.out.cl
       generalize wr.setCell ⟨z,2,none⟩ (.int .i64 ((s:Int) + 1))=w1 at S2 ⊢
       clear S1 z0 i0 i1 i2 i3 i4 i5 i6 fz0 fz2 hfull2 hfb hs1
       go_cut [] from 90 to 95 (fun wx=>∃ h2:Int,SkSt w0 z len 0 0 (s + 1) vC h2 gp PL base (.slice vA2 K.length vcap) K wx)
       case first =>
        obtain ⟨z0,i0,i1,i2,i3,i4,i5,i6,fz⟩:=log_facts S2.out.bl
        have fz4:=fz 4
        clear fz
        by_cases hd1:(d:Int)=1
        ·go_wp2_with fail
         go_meet
         case rel=>exact ⟨_,S2.out.log (cell_grown _ z 4 _) (S2.out.bl.set_ 4 _) S2.out.cl⟩
        ·go_wp2_with fail
         go_meet
         case rel=>exact ⟨_,S2.out⟩
       case rest =>
        rename World=>w5
        obtain ⟨h2,hs3⟩:=hcut
        have S3:=Lib.hid hs3
        clear S2 hs3
        obtain ⟨x,hxx⟩:∃ x,x=f.code.getD p default:=⟨_,rfl⟩
        have HXX:=Lib.hid hxx
        have hpl2:p < f.code.length:=by have:=HNC.out; omega
        obtain ⟨bc1,oc,hac,hbc,_⟩:=((HA.out.sub f HFM.out).ext (HX.out.trans S3.out.x)).at_ (k:=p) hpl2 hxx
        have HVC:Hid (w5.rangeAt bc1 (oc + p * 9) [.int .i64 x.op,.int .i64 x.a,.int .i64 x.b,.int .i64 x.ty.base,.int .i64 x.ty.bits,.string x.ty.name,.bool x.ty.opt,.bool x.ty.err,.string x.name]):=by
         have h9:=(HA.out.sub f HFM.out).ext (HX.out.trans S3.out.x)
         rw [hac] at h9
         exact h9.range hpl2 hxx
        have c8:w5.cell? ⟨b,off + k * 9 + 8,none⟩=some (.slice (some ⟨bc1,oc,none⟩) nc f.cap):=by
         have h9:=(S3.out.x.cell (p:=⟨b,off + k * 9 + 8,none⟩) HC8.out.1).trans HC8.out.2
         rwa [hac,← HNC.out] at h9
        have zb8:b < w5.heap.size:=Nat.lt_of_lt_of_le HC8.out.1 S3.out.x.size
        have hpc:(p:Int) < (nc:Int):=by omega
        have hK64:=(takes_ok (sane_of HVAL.out HFM.out) HUN.out HRE.out hxx).2
        have hw1:IntKind.i64.wrap ((p:Int) + 1)=((p + 1:Nat):Int):=by
         have:=(sane_of HVAL.out HFM.out).few
         rw [IntWalk.i64_in _ (by omega)]
         omega
        obtain ⟨nI,hnI⟩:∃ nI,nI=(K.length:Int) - 1:=⟨_,rfl⟩
        have hw2:IntKind.i64.wrap ((K.length:Int) - 1)=nI:=by rw [hnI]; exact IntWalk.i64_in _ (by omega)
        have HNI:=Lib.hid hnI
        have HZC:Hid ((Tryz.prog.info? 63).map (·.size)=some 9):=by unfold Hid; kernel_rfl
        clear hxx hac hpl2 hnI
        go_upto_if 111 with (first
         | ((with_reducible show wpList _ _ _ (Oper.mk (some 103) (.load 63 (.tmp 102)) _ _ _ _ :: _) _ _); refine wpList_load_mid rfl 63 _ rfl bc1 (oc + p * 9) rfl [.int .i64 x.op,.int .i64 x.a,.int .i64 x.b,.int .i64 x.ty.base,.int .i64 x.ty.bits,.string x.ty.name,.bool x.ty.opt,.bool x.ty.err,.string x.name] _ HVC.out Tryz.underlying63 rfl HZC.out ?_))
        have X4:Hid (Ext w5 ((w5.alloc (.cells #[.int .i64 x.op,.int .i64 x.a,.int .i64 x.b,.int .i64 x.ty.base,.int .i64 x.ty.bits,.string x.ty.name,.bool x.ty.opt,.bool x.ty.err,.string x.name] 63)).alloc (.cells #[.int .i64 0,.bool false,.string ⟨#[]⟩] 86))):=((Ext.refl _).alloc _).alloc _
        have BX:Hid (Blk ((w5.alloc (.cells #[.int .i64 x.op,.int .i64 x.a,.int .i64 x.b,.int .i64 x.ty.base,.int .i64 x.ty.bits,.string x.ty.name,.bool x.ty.opt,.bool x.ty.err,.string x.name] 63)).alloc (.cells #[.int .i64 0,.bool false,.string ⟨#[]⟩] 86)) w5.heap.size 63 (cdA x)):=Blk.alloc (Blk.new _ _ _) _
        have BT:Hid (Blk ((w5.alloc (.cells #[.int .i64 x.op,.int .i64 x.a,.int .i64 x.b,.int .i64 x.ty.base,.int .i64 x.ty.bits,.string x.ty.name,.bool x.ty.opt,.bool x.ty.err,.string x.name] 63)).alloc (.cells #[.int .i64 0,.bool false,.string ⟨#[]⟩] 86)) (w5.heap.size + 1) 86 (itA default)):=new2 _ _ _ _
        generalize (w5.alloc (.cells #[.int .i64 x.op,.int .i64 x.a,.int .i64 x.b,.int .i64 x.ty.base,.int .i64 x.ty.bits,.string x.ty.name,.bool x.ty.opt,.bool x.ty.err,.string x.name] 63)).alloc (.cells #[.int .i64 0,.bool false,.string ⟨#[]⟩] 86)=w6 at X4 BX BT ⊢
        obtain ⟨zx,hzx⟩:∃ zx,zx=w5.heap.size:=⟨_,rfl⟩
        have hzx1:w5.heap.size ≤ zx:=by omega
        rw [← hzx] at BX BT ⊢
        clear hzx c8 zb8
        go_cut [] from 112 to 115 (fun wy=>Ext w5 wy∧Blk wy zx 63 (cdA x)∧Blk wy (zx + 1) 86 (itA (topK K)))
        case first =>
         as_aux_lemma =>
          rcases Nat.eq_zero_or_pos K.length with h0 | h0
          ·have hK0:=Lib.hid (List.eq_nil_of_length_eq_zero h0)
           have hneg:¬ (0:Int) ≤ nI:=by have:=HNI.out; omega
           clear h0
           go_wp2_with fail
           go_meet
           case rel=>exact ⟨X4.out,BX.out,by rw [hK0.out]; exact BT.out⟩
          ·obtain ⟨gk,kc,hkv,_,_,hrk⟩:=own_form S3.out.st h0
           obtain ⟨rfl,rfl⟩:vA2=some ⟨gk,0,none⟩∧vcap=kc:=by cases hkv; exact ⟨rfl,rfl⟩
           have hge:(0:Int) ≤ nI:=by have:=HNI.out; omega
           have hltI:nI < (K.length:Int):=by have:=HNI.out; omega
           have hRK:Hid (w6.rangeAt gk (nI.toNat * 3) (itA (topK K)).toList):=(hrk.ext X4.out).range (k:=nI.toNat) (by omega) (by unfold topK; congr 1; have:=HNI.out; omega)
           clear hkv hrk h0
           go_wp2_with (first
            | ((with_reducible show wpList _ _ _ (Oper.mk (some 115) (.load 86 (.tmp 114)) _ _ _ _ :: _) _ _); refine wpList_load_mid rfl 86 _ rfl gk (nI.toNat * 3) rfl (itA (topK K)).toList _ hRK.out Tryz.underlying86 rfl HZI.out ?_)
            | ((with_reducible show wpList _ _ _ (Oper.mk none (.store 86 (.tmp 19) _) _ _ _ _ :: _) _ _); refine wpList_store_row rfl 86 _ _ rfl (zx + 1) rfl 86 (itA default) (itA (topK K)) BT.out rfl rfl (itA_one _) HZI.out ?_))
           go_meet
           case rel=>exact ⟨X4.out.setRow (by omega) _,(setRow_other _ _ _ _ (by omega)).trans BX.out,BT.out.row _⟩
        case rest =>
         obtain ⟨x5,bx5,bt5⟩:=hcut
         have X5:=Lib.hid x5
         have BX5:=Lib.hid bx5
         have BT5:=Lib.hid bt5
         clear x5 bx5 bt5 X4 BX BT
         obtain ⟨zq,q0,q1,q2,q3,q4,q5,q6,q7,q8⟩:=cd_facts BX5.out
         have hin:instS l f x=true:=HIN.out x (by rw [HXX.out]; exact getD_mem (by have:=HNC.out; omega))
         have HI:=Lib.hid hin
         have hlt:s < 40000:=by omega
         have HRX:Hid (∀ p' P' K',stepK ck x p (fun i=>PL.getD i default) K=.go p' P' K' → RunK l ck (.at_ d k p' P' K') (s + 1) en t):=fun p' P' K' h9=>HR.out.inv_go hlt (by rw [← HF.out,← HXX.out]; exact h9)
         clear hin
         go_upto_block 4 with fail
         go_cut [16,17,21,22,23,24] from 88 to 339 (fun v a b _ _ _ wx=>SwR l ck d k f nc np w0 z len gp base s en t v a b wx)
         case first =>
          have HOPS:=Lib.hid (kinst_ops HI.out)
          rcases (show x.op=14 ∨ x.op=4 ∨ x.op=15 ∨ x.op=12 ∨ x.op=13 ∨ x.op=0 ∨ x.op=1 ∨ x.op=18 ∨ x.op=2 ∨ x.op=3 ∨ x.op=19 ∨ x.op=17 ∨ (7 ≤ x.op∧x.op ≤ 11) ∨ x.op=5 ∨ x.op=6 ∨ x.op=16 by have:=HOPS.out; omega) with hop | hop | hop | hop | hop | hop | hop | hop | hop | hop | hop | hop | hop | hop | hop | hop
          ·as_aux_lemma =>
            have sn:=sane_of HVAL.out HFM.out
            have ha0:=((sn.each x (by rw [HXX.out]; exact getD_mem (by have:=HNC.out; omega))).2.2 (by rw [hop]; rfl)).1
            obtain ⟨na,hna⟩:∃ na:Nat,x.a=na:=⟨x.a.toNat,by omega⟩
            rw [hna] at q1
            have hst:stepK ck x p (fun i=>PL.getD i default) K=.go na (fun i=>PL.getD i default) K:=by simp [stepK,hop,hna]
            have HR2:=Lib.hid (HRX.out _ _ _ hst)
            obtain ⟨r1,r2⟩:=reach_go sn HUN.out HRE.out HXX.out hst
            have HPC:=Lib.hid r1
            have HRE2:=Lib.hid r2
            clear hst r1 r2
            rw [hop] at q0 ⊢
            have SF:Hid (SkSt w0 z len 0 0 (s + 1) vC h2 gp PL base (.slice vA2 K.length vcap) K wc):=S3.out.ext' X5.out
            clear hna hop ha0 sn
            go_wp2_with fail
            go_meet
            case rel=>exact SwR.go (p:=na) (PL:=PL) (K:=K) rfl rfl HPL.out (by omega) (by omega) SF.out HNC.out HPC.out HRE2.out HR2.out
          ·as_aux_lemma =>
            have sn:=sane_of HVAL.out HFM.out
            have htk:=(takes_ok sn HUN.out HRE.out HXX.out).1
            have h0:1 ≤ K.length:=by
             have e:takesS x=1:=by simp [takesS,hop]
             omega
            obtain ⟨bk,kc,hkv,hkc,_,hrk⟩:=own_form S3.out.st (by omega)
            obtain ⟨rfl,rfl⟩:vA2=some ⟨bk,0,none⟩∧vcap=kc:=by cases hkv; exact ⟨rfl,rfl⟩
            have HRK:=Lib.hid hrk
            obtain ⟨m,hm⟩:∃ m:Nat,K.length=m + 1:=⟨K.length - 1,by omega⟩
            have hm1:K.length - 1=m:=by omega
            have HM:=Lib.hid hm
            obtain rfl:nI=(m:Int):=by have:=HNI.out; omega
            have hmc:(m:Int) ≤ (vcap:Int):=by omega
            have hm0:(0:Int) ≤ (m:Int):=by omega
            clear hkv hrk htk hkc
            have hst:stepK ck x p (fun i=>PL.getD i default) K=.go (p + 1) (fun i=>PL.getD i default) (K.take m):=by simp [stepK,hop,hm1]
            have HR2:=Lib.hid (HRX.out _ _ _ hst)
            obtain ⟨r1,r2⟩:=reach_go sn HUN.out HRE.out HXX.out hst
            have HPC:=Lib.hid r1
            have HRE2:=Lib.hid r2
            clear hst r1 r2
            rw [hop] at q0 ⊢
            have SF:Hid (SkSt w0 z len 0 0 (s + 1) vC h2 gp PL base (.slice (some ⟨bk,0,none⟩) m vcap) (K.take m) wc):=(S3.out.ext' X5.out).pop rfl (by simp) (by omega)
            clear hop sn
            go_wp2_with fail
            go_meet
            case rel=>exact SwR.go (p:=(p + 1)) (PL:=PL) (K:=(K.take m)) rfl rfl HPL.out (by omega) (by omega) SF.out HNC.out HPC.out HRE2.out HR2.out
          ·as_aux_lemma =>
            have sn:=sane_of HVAL.out HFM.out
            have htk:=(takes_ok sn HUN.out HRE.out HXX.out).1
            have h0:1 ≤ K.length:=by
             have e:takesS x=1:=by simp [takesS,hop]
             omega
            obtain ⟨bk,kc,hkv,hkc,_,hrk⟩:=own_form S3.out.st (by omega)
            obtain ⟨rfl,rfl⟩:vA2=some ⟨bk,0,none⟩∧vcap=kc:=by cases hkv; exact ⟨rfl,rfl⟩
            have HRK:=Lib.hid hrk
            obtain ⟨m,hm⟩:∃ m:Nat,K.length=m + 1:=⟨K.length - 1,by omega⟩
            have hm1:K.length - 1=m:=by omega
            have HM:=Lib.hid hm
            obtain rfl:nI=(m:Int):=by have:=HNI.out; omega
            have hmc:(m:Int) ≤ (vcap:Int):=by omega
            have hm0:(0:Int) ≤ (m:Int):=by omega
            clear hkv hrk htk hkc
            have ha0:=((sn.each x (by rw [HXX.out]; exact getD_mem (by have:=HNC.out; omega))).2.2 (by rw [hop]; rfl)).1
            obtain ⟨na,hna⟩:∃ na:Nat,x.a=na:=⟨x.a.toNat,by omega⟩
            rw [hna] at q1
            have t0:wc.cell? ⟨zx + 1,0,none⟩=some (.int .i64 (topK K).n):=BT5.out.cell 0
            have zt:=BT5.out.lt
            rw [hop] at q0 ⊢
            have SF:Hid (SkSt w0 z len 0 0 (s + 1) vC h2 gp PL base (.slice (some ⟨bk,0,none⟩) m vcap) (K.take m) wc):=(S3.out.ext' X5.out).pop rfl (by simp) (by omega)
            by_cases hz:(topK K).n=0
            ·have hzb:((topK K).n == 0)=true:=by simp [hz]
             rw [hz] at t0
             have hst:stepK ck x p (fun i=>PL.getD i default) K=.go na (fun i=>PL.getD i default) (K.take m):=by simp [stepK,hop,hm1,hna,hzb]
             have HR2:=Lib.hid (HRX.out _ _ _ hst)
             obtain ⟨r1,r2⟩:=reach_go sn HUN.out HRE.out HXX.out hst
             have HPC:=Lib.hid r1
             have HRE2:=Lib.hid r2
             clear hst r1 r2
             clear hna hop ha0 sn hz hzb
             go_wp2_with fail
             go_meet
             case rel=>exact SwR.go (p:=na) (PL:=PL) (K:=(K.take m)) rfl rfl HPL.out (by omega) (by omega) SF.out HNC.out HPC.out HRE2.out HR2.out
            ·have hzb:((topK K).n == 0)=false:=by simp [hz]
             have hst:stepK ck x p (fun i=>PL.getD i default) K=.go (p + 1) (fun i=>PL.getD i default) (K.take m):=by simp [stepK,hop,hm1,hna,hzb]
             have HR2:=Lib.hid (HRX.out _ _ _ hst)
             obtain ⟨r1,r2⟩:=reach_go sn HUN.out HRE.out HXX.out hst
             have HPC:=Lib.hid r1
             have HRE2:=Lib.hid r2
             clear hst r1 r2
             clear hna hop ha0 sn hzb
             go_wp2_with fail
             go_meet
             case rel=>exact SwR.go (p:=(p + 1)) (PL:=PL) (K:=(K.take m)) rfl rfl HPL.out (by omega) (by omega) SF.out HNC.out HPC.out HRE2.out HR2.out
          ·as_aux_lemma =>
            have sn:=sane_of HVAL.out HFM.out
            have htk:=(takes_ok sn HUN.out HRE.out HXX.out).1
            have h0:1 ≤ K.length:=by
             have e:takesS x=1:=by simp [takesS,hop]
             omega
            obtain ⟨bk,kc,hkv,hkc,_,hrk⟩:=own_form S3.out.st (by omega)
            obtain ⟨rfl,rfl⟩:vA2=some ⟨bk,0,none⟩∧vcap=kc:=by cases hkv; exact ⟨rfl,rfl⟩
            have HRK:=Lib.hid hrk
            obtain ⟨m,hm⟩:∃ m:Nat,K.length=m + 1:=⟨K.length - 1,by omega⟩
            have hm1:K.length - 1=m:=by omega
            have HM:=Lib.hid hm
            obtain rfl:nI=(m:Int):=by have:=HNI.out; omega
            have hmc:(m:Int) ≤ (vcap:Int):=by omega
            have hm0:(0:Int) ≤ (m:Int):=by omega
            clear hkv hrk htk hkc
            have ha0:=((sn.each x (by rw [HXX.out]; exact getD_mem (by have:=HNC.out; omega))).2.2 (by rw [hop]; rfl)).1
            obtain ⟨na,hna⟩:∃ na:Nat,x.a=na:=⟨x.a.toNat,by omega⟩
            rw [hna] at q1
            have t1:wc.cell? ⟨zx + 1,1,none⟩=some (.bool (topK K).null):=BT5.out.cell 1
            have zt:=BT5.out.lt
            rw [hop] at q0 ⊢
            cases hvn:(topK K).null with
            | true =>
             rw [hvn] at t1
             have SF:Hid (SkSt w0 z len 0 0 (s + 1) vC h2 gp PL base (.slice (some ⟨bk,0,none⟩) m vcap) (K.take m) wc):=(S3.out.ext' X5.out).pop rfl (by simp) (by omega)
             have hst:stepK ck x p (fun i=>PL.getD i default) K=.go na (fun i=>PL.getD i default) (K.take m):=by simp [stepK,hop,hm1,hna,hvn]
             have HR2:=Lib.hid (HRX.out _ _ _ hst)
             obtain ⟨r1,r2⟩:=reach_go sn HUN.out HRE.out HXX.out hst
             have HPC:=Lib.hid r1
             have HRE2:=Lib.hid r2
             clear hst r1 r2
             clear hna hop ha0 sn hvn
             go_wp2_with fail
             go_meet
             case rel=>exact SwR.go (p:=na) (PL:=PL) (K:=(K.take m)) rfl rfl HPL.out (by omega) (by omega) SF.out HNC.out HPC.out HRE2.out HR2.out
            | false =>
             rw [hvn] at t1
             have SF:Hid (SkSt w0 z len 0 0 (s + 1) vC h2 gp PL base (.slice (some ⟨bk,0,none⟩) K.length vcap) K wc):=S3.out.ext' X5.out
             have hst:stepK ck x p (fun i=>PL.getD i default) K=.go (p + 1) (fun i=>PL.getD i default) K:=by simp [stepK,hop,hvn]
             have HR2:=Lib.hid (HRX.out _ _ _ hst)
             obtain ⟨r1,r2⟩:=reach_go sn HUN.out HRE.out HXX.out hst
             have HPC:=Lib.hid r1
             have HRE2:=Lib.hid r2
             clear hst r1 r2
             clear hna hop ha0 sn hvn
             go_wp2_with fail
             go_meet
             case rel=>exact SwR.go (p:=(p + 1)) (PL:=PL) (K:=K) rfl rfl HPL.out (by omega) (by omega) SF.out HNC.out HPC.out HRE2.out HR2.out
          ·as_aux_lemma =>
            have sn:=sane_of HVAL.out HFM.out
            have htk:=(takes_ok sn HUN.out HRE.out HXX.out).1
            have h0:1 ≤ K.length:=by
             have e:takesS x=1:=by simp [takesS,hop]
             omega
            obtain ⟨bk,kc,hkv,hkc,_,hrk⟩:=own_form S3.out.st (by omega)
            obtain ⟨rfl,rfl⟩:vA2=some ⟨bk,0,none⟩∧vcap=kc:=by cases hkv; exact ⟨rfl,rfl⟩
            have HRK:=Lib.hid hrk
            obtain ⟨m,hm⟩:∃ m:Nat,K.length=m + 1:=⟨K.length - 1,by omega⟩
            have hm1:K.length - 1=m:=by omega
            have HM:=Lib.hid hm
            obtain rfl:nI=(m:Int):=by have:=HNI.out; omega
            have hmc:(m:Int) ≤ (vcap:Int):=by omega
            have hm0:(0:Int) ≤ (m:Int):=by omega
            clear hkv hrk htk hkc
            have ha0:=((sn.each x (by rw [HXX.out]; exact getD_mem (by have:=HNC.out; omega))).2.2 (by rw [hop]; rfl)).1
            obtain ⟨na,hna⟩:∃ na:Nat,x.a=na:=⟨x.a.toNat,by omega⟩
            rw [hna] at q1
            rw [hop] at q0 ⊢
            obtain ⟨er,her⟩:∃ er,er=(topK K).err:=⟨_,rfl⟩
            have t2:wc.cell? ⟨zx + 1,2,none⟩=some (.string er):=by rw [her]; exact BT5.out.cell 2
            have zt:=BT5.out.lt
            have hem:er.toList.isEmpty=emp er:=rfl
            have SF:Hid (SkSt w0 z len 0 0 (s + 1) vC h2 gp PL base (.slice (some ⟨bk,0,none⟩) K.length vcap) K wc):=S3.out.ext' X5.out
            cases hvn:emp er with
            | true =>
             have hv2:=hvn
             rw [her] at hv2
             have hst:stepK ck x p (fun i=>PL.getD i default) K=.go (p + 1) (fun i=>PL.getD i default) K:=by simp [stepK,hop,hv2]
             have HR2:=Lib.hid (HRX.out _ _ _ hst)
             obtain ⟨r1,r2⟩:=reach_go sn HUN.out HRE.out HXX.out hst
             have HPC:=Lib.hid r1
             have HRE2:=Lib.hid r2
             clear hst r1 r2
             clear hna hop ha0 sn her hv2
             go_wp2_with fail
             go_meet
             case rel=>exact SwR.go (p:=(p + 1)) (PL:=PL) (K:=K) rfl rfl HPL.out (by omega) (by omega) SF.out HNC.out HPC.out HRE2.out HR2.out
            | false =>
             have hv2:=hvn
             rw [her] at hv2
             have hst:stepK ck x p (fun i=>PL.getD i default) K=.go na (fun i=>PL.getD i default) K:=by simp [stepK,hop,hna,hv2]
             have HR2:=Lib.hid (HRX.out _ _ _ hst)
             obtain ⟨r1,r2⟩:=reach_go sn HUN.out HRE.out HXX.out hst
             have HPC:=Lib.hid r1
             have HRE2:=Lib.hid r2
             clear hst r1 r2
             clear hna hop ha0 sn her hv2
             go_wp2_with fail
             go_meet
             case rel=>exact SwR.go (p:=na) (PL:=PL) (K:=K) rfl rfl HPL.out (by omega) (by omega) SF.out HNC.out HPC.out HRE2.out HR2.out
          ·as_aux_lemma =>
            have sn:=sane_of HVAL.out HFM.out
            have HTY:=Lib.hid (kinst_push HI.out hop)
            have hst:stepK ck x p (fun i=>PL.getD i default) K=.go (p + 1) (fun i=>PL.getD i default) (K ++ [nv (wrapT x.ty x.a)]):=by simp [stepK,hop]
            have HR2:=Lib.hid (HRX.out _ _ _ hst)
            obtain ⟨r1,r2⟩:=reach_go sn HUN.out HRE.out HXX.out hst
            have HPC:=Lib.hid r1
            have HRE2:=Lib.hid r2
            clear hst r1 r2
            rw [hop] at q0 ⊢
            obtain ⟨N,hN⟩:∃ N,N=wrapT x.ty x.a:=⟨_,rfl⟩
            have HPU:Hid (∀ w1,Calls Tryz.prog 113 #[.agg #[.int .i64 x.ty.base,.int .i64 x.ty.bits,.string x.ty.name,.bool x.ty.opt,.bool x.ty.err],.int .i64 x.a] w1 fun e w'=>e=.returned (.agg #[.int .i64 N,.bool false,.string ⟨#[]⟩])∧Ext w1 w'):=fun w1=>by
             have h9:=kpushed_any x.ty x.a w1 HTY.out
             rw [← hN] at h9
             exact h9
            rw [← hN] at HR2 HRE2
            clear hop sn hN
            go_wp2_with (first
              | (go_at_call 113
                 refine (HPU.out _).mono ?_
                 rintro r w7 ⟨rfl,x7⟩
                 have X7:Hid (Ext w5 (w7.alloc (.cells #[.int .i64 N,.bool false,.string ⟨#[]⟩] 86))):=(X5.out.trans x7).alloc _
                 clear x7)
              | (at_builtin
                 refine wpList_append_its rfl _ _ rfl base _ K [nv N] rfl (S3.out.ext' X7.out).st w7.heap.size 0 1 1 rfl rfl (lit_its (u:=nv N) (blk_newer rfl)) (by simp only [List.length_singleton]; omega) (S3.out.ext' X7.out).base_le ?_
                 intro v8 w8 st8 g8))
            have S8:=Lib.hid ((S3.out.ext' X7.out).push g8 st8)
            obtain ⟨g9,c9,hv9,_,_,_⟩:=own_form st8 (by simp)
            subst hv9
            clear st8 g8
            go_meet
            case rel=>exact SwR.go (p:=(p + 1)) (PL:=PL) (K:=(K ++ [nv N])) rfl rfl HPL.out (by omega) (by omega) S8.out HNC.out HPC.out HRE2.out HR2.out
          ·as_aux_lemma =>
            have sn:=sane_of HVAL.out HFM.out
            have hst:stepK ck x p (fun i=>PL.getD i default) K=.go (p + 1) (fun i=>PL.getD i default) (K ++ [pv 0 true ⟨#[]⟩]):=by simp [stepK,hop]
            have HR2:=Lib.hid (HRX.out _ _ _ hst)
            obtain ⟨r1,r2⟩:=reach_go sn HUN.out HRE.out HXX.out hst
            have HPC:=Lib.hid r1
            have HRE2:=Lib.hid r2
            clear hst r1 r2
            rw [hop] at q0 ⊢
            clear hop sn
            have X7:Hid (Ext w5 (wc.alloc (.cells (itA (pv 0 true ⟨#[]⟩)) 86))):=X5.out.alloc _
            go_wp2_with (first
              | (at_builtin
                 refine wpList_append_its rfl _ _ rfl base _ K [pv 0 true ⟨#[]⟩] rfl (S3.out.ext' X7.out).st wc.heap.size 0 1 1 rfl rfl (lit_its (u:=pv 0 true ⟨#[]⟩) (blk_newer rfl)) (by simp only [List.length_singleton]; omega) (S3.out.ext' X7.out).base_le ?_
                 intro v8 w8 st8 g8))
            have S8:=Lib.hid ((S3.out.ext' X7.out).push g8 st8)
            obtain ⟨g9,c9,hv9,_,_,_⟩:=own_form st8 (by simp)
            subst hv9
            clear st8 g8
            go_meet
            case rel=>exact SwR.go (p:=(p + 1)) (PL:=PL) (K:=(K ++ [pv 0 true ⟨#[]⟩])) rfl rfl HPL.out (by omega) (by omega) S8.out HNC.out HPC.out HRE2.out HR2.out
          ·as_aux_lemma =>
            have sn:=sane_of HVAL.out HFM.out
            have hst:stepK ck x p (fun i=>PL.getD i default) K=.go (p + 1) (fun i=>PL.getD i default) (K ++ [pv 0 false x.name]):=by simp [stepK,hop]
            have HR2:=Lib.hid (HRX.out _ _ _ hst)
            obtain ⟨r1,r2⟩:=reach_go sn HUN.out HRE.out HXX.out hst
            have HPC:=Lib.hid r1
            have HRE2:=Lib.hid r2
            clear hst r1 r2
            rw [hop] at q0 ⊢
            clear hop sn
            have X7:Hid (Ext w5 (wc.alloc (.cells (itA (pv 0 false x.name)) 86))):=X5.out.alloc _
            go_wp2_with (first
              | (at_builtin
                 refine wpList_append_its rfl _ _ rfl base _ K [pv 0 false x.name] rfl (S3.out.ext' X7.out).st wc.heap.size 0 1 1 rfl rfl (lit_its (u:=pv 0 false x.name) (blk_newer rfl)) (by simp only [List.length_singleton]; omega) (S3.out.ext' X7.out).base_le ?_
                 intro v8 w8 st8 g8))
            have S8:=Lib.hid ((S3.out.ext' X7.out).push g8 st8)
            obtain ⟨g9,c9,hv9,_,_,_⟩:=own_form st8 (by simp)
            subst hv9
            clear st8 g8
            go_meet
            case rel=>exact SwR.go (p:=(p + 1)) (PL:=PL) (K:=(K ++ [pv 0 false x.name])) rfl rfl HPL.out (by omega) (by omega) S8.out HNC.out HPC.out HRE2.out HR2.out
          ·as_aux_lemma =>
            have sn:=sane_of HVAL.out HFM.out
            have hpl0:=fcS_parts (valid_fc HVAL.out HFM.out)
            have hipl:=kinst_place HI.out (by omega) (by omega) ((valid_parts HVAL.out).2.2.1 _ HFM.out)
            obtain ⟨na,hna⟩:∃ na:Nat,x.a=na:=⟨x.a.toNat,by omega⟩
            rw [hna] at q1
            have hnp:na < np:=by have:=HNP.out; omega
            have hnp2:(na:Int) < (np:Int):=by omega
            have hnp0:(0:Int) ≤ (na:Int):=by omega
            clear hpl0 hipl
            have hst:stepK ck x p (fun i=>PL.getD i default) K=.go (p + 1) (fun i=>PL.getD i default) (K ++ [PL.getD na default]):=by simp [stepK,hop,hna]
            have HR2:=Lib.hid (HRX.out _ _ _ hst)
            obtain ⟨r1,r2⟩:=reach_go sn HUN.out HRE.out HXX.out hst
            have HPC:=Lib.hid r1
            have HRE2:=Lib.hid r2
            clear hst r1 r2
            rw [hop] at q0 ⊢
            obtain ⟨u,hu⟩:∃ u,u=PL.getD na default:=⟨_,rfl⟩
            have HPR:Hid (wc.rangeAt gp (na * 3) (itA u).toList):=((S3.out.ext' X5.out).pl.range (by have:=HPL.out; omega) hu)
            have u0:wc.cell? ⟨gp,na * 3,none⟩=some (.int .i64 u.n):=HPR.out 0 _ rfl
            have u1:wc.cell? ⟨gp,na * 3 + 1,none⟩=some (.bool u.null):=HPR.out 1 _ rfl
            have u2:wc.cell? ⟨gp,na * 3 + 2,none⟩=some (.string u.err):=HPR.out 2 _ rfl
            have zgp:=(S3.out.ext' X5.out).pl.lt
            rw [← hu] at HR2 HRE2
            have X7:Hid (Ext w5 (wc.alloc (.cells #[.int .i64 u.n,.bool u.null,.string u.err] 86))):=X5.out.alloc _
            clear hna hop sn hu HPR
            go_wp2_with (first
              | (at_builtin
                 refine wpList_append_its rfl _ _ rfl base _ K [u] rfl (S3.out.ext' X7.out).st wc.heap.size 0 1 1 rfl rfl (lit_its (u:=u) (blk_newer rfl)) (by simp only [List.length_singleton]; omega) (S3.out.ext' X7.out).base_le ?_
                 intro v8 w8 st8 g8))
            have S8:=Lib.hid ((S3.out.ext' X7.out).push g8 st8)
            obtain ⟨g9,c9,hv9,_,_,_⟩:=own_form st8 (by simp)
            subst hv9
            clear st8 g8
            go_meet
            case rel=>exact SwR.go (p:=(p + 1)) (PL:=PL) (K:=(K ++ [u])) rfl rfl HPL.out (by omega) (by omega) S8.out HNC.out HPC.out HRE2.out HR2.out
          ·as_aux_lemma =>
            have sn:=sane_of HVAL.out HFM.out
            have htk:=(takes_ok sn HUN.out HRE.out HXX.out).1
            have h0:1 ≤ K.length:=by
             have e:takesS x=1:=by simp [takesS,hop]
             omega
            obtain ⟨bk,kc,hkv,hkc,_,hrk⟩:=own_form S3.out.st (by omega)
            obtain ⟨rfl,rfl⟩:vA2=some ⟨bk,0,none⟩∧vcap=kc:=by cases hkv; exact ⟨rfl,rfl⟩
            have HRK:=Lib.hid hrk
            obtain ⟨m,hm⟩:∃ m:Nat,K.length=m + 1:=⟨K.length - 1,by omega⟩
            have hm1:K.length - 1=m:=by omega
            have HM:=Lib.hid hm
            obtain rfl:nI=(m:Int):=by have:=HNI.out; omega
            have hmc:(m:Int) ≤ (vcap:Int):=by omega
            have hm0:(0:Int) ≤ (m:Int):=by omega
            clear hkv hrk htk hkc
            have hpl0:=fcS_parts (valid_fc HVAL.out HFM.out)
            have hipl:=kinst_place HI.out (by omega) (by omega) ((valid_parts HVAL.out).2.2.1 _ HFM.out)
            obtain ⟨na,hna⟩:∃ na:Nat,x.a=na:=⟨x.a.toNat,by omega⟩
            rw [hna] at q1
            have hnp:na < np:=by have:=HNP.out; omega
            have hnp2:(na:Int) < (np:Int):=by omega
            have hnp0:(0:Int) ≤ (na:Int):=by omega
            clear hpl0 hipl
            have hst:stepK ck x p (fun i=>PL.getD i default) K=.go (p + 1) (fun i=>(PL.set na (topK K)).getD i default) (K.take m):=by rw [upd_list (by have:=HPL.out; omega)]; simp [stepK,hop,hm1,hna]
            have HR2:=Lib.hid (HRX.out _ _ _ hst)
            obtain ⟨r1,r2⟩:=reach_go sn HUN.out HRE.out HXX.out hst
            have HPC:=Lib.hid r1
            have HRE2:=Lib.hid r2
            clear hst r1 r2
            rw [hop] at q0 ⊢
            have hnn:¬ ((-1:Int)=(na:Int)):=by omega
            have HNA:=Lib.hid hna
            clear hna hop sn
            have HTR:Hid (wc.rangeAt (zx + 1) 0 (itA (topK K)).toList):=BT5.out.all
            have SF:Hid (SkSt w0 z len 0 0 (s + 1) vC h2 gp PL base (.slice (some ⟨bk,0,none⟩) m vcap) (K.take m) wc):=(S3.out.ext' X5.out).pop rfl (by simp) (by omega)
            have HTH:Hid (wc.there gp (na * 3) 3):=SF.out.pl.there (by have:=HPL.out; omega)
            go_upto_region 43 with (first
              | ((with_reducible show wpList _ _ _ (Oper.mk (some 163) (.load 86 (.tmp 19)) _ _ _ _ :: _) _ _); refine wpList_load_mid rfl 86 _ rfl (zx + 1) 0 rfl (itA (topK K)).toList _ HTR.out Tryz.underlying86 rfl HZI.out ?_)
              | ((with_reducible show wpList _ _ _ (Oper.mk none (.store 86 (.tmp 164) _) _ _ _ _ :: _) _ _); refine wpList_store_mid rfl 86 _ _ rfl gp (na * 3) (itA (topK K)).toList.toArray rfl rfl HTH.out HZI.out (itA_all _) ?_))
            have S8:Hid (SkSt w0 z len 0 0 (s + 1) vC h2 gp (PL.set na (topK K)) base (.slice (some ⟨bk,0,none⟩) m vcap) (K.take m) (wc.setCells gp (na * 3) (itA (topK K)).toList)):=SF.out.place (cells_grown _ gp (na * 3) _) (SF.out.pl.put (k:=na) (by have:=HPL.out; omega) _)
            have HPL2:Hid ((PL.set na (topK K)).length=np):=by unfold Hid; simpa using HPL.out
            have BX8:=Lib.hid (BX5.out.setCells_far (show zx ≠ gp by have:=S3.out.lo; omega) (na * 3) (itA (topK K)).toList)
            generalize wc.setCells gp (na * 3) (itA (topK K)).toList=w8 at S8 BX8 ⊢
            obtain ⟨zq,_,q1,_,_,_,_,_,_,_⟩:=cd_facts BX8.out
            rw [show x.a=(na:Int) from HNA.out] at q1
            obtain ⟨z0,i0,i1,i2,i3,i4,i5,i6,fz⟩:=log_facts S8.out.bl
            have fz4:=fz 4
            clear fz SF HTR HTH
            by_cases hd1:(d:Int)=1
            ·go_wp2_with fail
             go_meet
             case rel=>exact SwR.go (p:=p + 1) (PL:=PL.set na (topK K)) (K:=K.take m) rfl rfl HPL2.out (by omega) (by omega) S8.out HNC.out HPC.out HRE2.out HR2.out
            ·go_wp2_with fail
             go_meet
             case rel=>exact SwR.go (p:=p + 1) (PL:=PL.set na (topK K)) (K:=K.take m) rfl rfl HPL2.out (by omega) (by omega) S8.out HNC.out HPC.out HRE2.out HR2.out
          ·as_aux_lemma =>
            have hst0:=kinst_stop HI.out hop
            rw [hop] at q0 ⊢
            have SF:Hid (SkSt w0 z len 0 0 (s + 1) vC h2 gp PL base (.slice vA2 K.length vcap) K wc):=S3.out.ext' X5.out
            cases ck with
            | false =>
             have hst:stepK false x p (fun i=>PL.getD i default) K=.done (.ret default):=by simp [stepK,hop]
             obtain ⟨rfl,rfl⟩:=HR.out.inv_done hlt (by rw [← HF.out,← HXX.out]; exact hst)
             clear hst
             clear hop hst0
             go_wp2_with fail
             refine flow_begin (EndSt w0 z len 0 0 (s + 1) vC h2 (itA default)) #[false,false,false,false] rfl (by kernel_rfl) (fun _ _ _ _ _ h=>h) (SF.out.endS) (fun HQ=>?_)
             have HST:∀ (i:Nat) (_:i ≠ 2:=by decide) (_:i ≠ 3:=by decide) (l:Array Bool) (w':World),EndSt w0 z len 0 0 (s + 1) vC h2 (itA default) (l.setIfInBounds i true) w' ↔ EndSt w0 z len 0 0 (s + 1) vC h2 (itA default) l w':=fun i h2 h3 l w'=>EndSt.other h2 h3
             (refine tp 0 120 rfl HQ (HST 0) ?_; try simp only [putL,List.set])
             refine flow_take (i:=1) (t:=121) (oi:=⟨some 121,_,_,_,_,_⟩) rfl rfl (by kernel_rfl) (by kernel_rfl) (by kernel_rfl) HQ (HST 1) (does_load (by rfl) 89 _ rfl z 0 rfl (logA 0 0 (s + 1) vC h2).toList _ (fun l w' hF=>hF.bl.all) Tryz.underlying89 rfl HZL.out) ?_
             try simp only [putL,List.set]
             refine flow_put (i:=2) (oi:=⟨none,_,_,_,_,none⟩) rfl rfl (stores_mid (i:=2) rfl 86 _ _ rfl (z + 1) 0 ((itA default)) rfl rfl (fun l w' h=>h.there1 rfl) HZI.out (itA_all _) (fun l w' h=>h.put1 rfl)) (by kernel_rfl) ?_
             try simp only [Array.set!,Array.setIfInBounds,putL,List.set]
             refine flow_store1 (i:=3) (oi:=⟨none,_,_,_,_,none⟩) rfl rfl (stores_mid (i:=3) rfl 89 _ _ rfl (z + 2) 0 (logA 0 0 (s + 1) vC h2) rfl rfl (fun l w' h=>h.there2) HZL.out (logA_all _ _ _ _ HV1.out) (fun l w' h=>h.put2)) (by kernel_rfl) (by kernel_rfl) (fun w9 hE=>?_)
             clear HST HQ
             go_wp2_with fail
             exact bodyPost_ret (results_row_row rfl _ _ (z + 1) 86 ((itA default)) (0,0) _ rfl (hE.res.1) Tryz.underlying86 rfl HZI.out (z + 2) 89 (logA 0 0 (s + 1) vC h2) (0,0) _ rfl (hE.res.2) Tryz.underlying89 rfl HZL.out) rfl ⟨_,rfl,hE.log,hE.x⟩
            | true =>
             have hst:stepK true x p (fun i=>PL.getD i default) K=.done (.stop x.a):=by simp [stepK,hop]
             obtain ⟨rfl,rfl⟩:=HR.out.inv_done hlt (by rw [← HF.out,← HXX.out]; exact hst)
             clear hst
             have hy:x.a ≠ 0:=by omega
             go_wp2_with fail
             go_meet
             case rel=>exact SwR.stop (p:=p + 1) rfl rfl HPL.out (by omega) (by omega) SF.out hy rfl rfl
          ·as_aux_lemma =>
            have sn:=sane_of HVAL.out HFM.out
            have htk:=(takes_ok sn HUN.out HRE.out HXX.out).1
            have h0:1 ≤ K.length:=by
             have e:takesS x=1:=by simp [takesS,hop]
             omega
            obtain ⟨bk,kc,hkv,hkc,_,hrk⟩:=own_form S3.out.st (by omega)
            obtain ⟨rfl,rfl⟩:vA2=some ⟨bk,0,none⟩∧vcap=kc:=by cases hkv; exact ⟨rfl,rfl⟩
            have HRK:=Lib.hid hrk
            obtain ⟨m,hm⟩:∃ m:Nat,K.length=m + 1:=⟨K.length - 1,by omega⟩
            have hm1:K.length - 1=m:=by omega
            have HM:=Lib.hid hm
            obtain rfl:nI=(m:Int):=by have:=HNI.out; omega
            have hmc:(m:Int) ≤ (vcap:Int):=by omega
            have hm0:(0:Int) ≤ (m:Int):=by omega
            clear hkv hrk htk hkc
            rw [hop] at q0 ⊢
            have hst:stepK ck x p (fun i=>PL.getD i default) K=.done (.ret (topK K)):=by simp [stepK,hop]
            obtain ⟨rfl,rfl⟩:=HR.out.inv_done hlt (by rw [← HF.out,← HXX.out]; exact hst)
            clear hst
            have SF:Hid (SkSt w0 z len 0 0 (s + 1) vC h2 gp PL base (.slice (some ⟨bk,0,none⟩) K.length vcap) K wc):=S3.out.ext' X5.out
            have hzg:z + 2 < zx + 1:=by have:=SF.out.lo; have:=S3.out.lo; omega
            have T9:Hid (EndT w0 z len 0 0 (s + 1) vC h2 (topK K) (zx + 1) #[false,false,false,false] wc.drew):=⟨SF.out.endS,BT5.out.ext (Ext.refl _).drew⟩
            have HZG:=Lib.hid hzg
            clear hop sn hzg
            go_wp2_with fail
            refine flow_begin (EndT w0 z len 0 0 (s + 1) vC h2 (topK K) (zx + 1)) #[false,false,false,false] rfl (by kernel_rfl) (fun _ _ _ _ _ h=>h) (T9.out) (fun HQ=>?_)
            have HST:∀ (i:Nat) (_:i ≠ 2:=by decide) (_:i ≠ 3:=by decide) (l:Array Bool) (w':World),EndT w0 z len 0 0 (s + 1) vC h2 (topK K) (zx + 1) (l.setIfInBounds i true) w' ↔ EndT w0 z len 0 0 (s + 1) vC h2 (topK K) (zx + 1) l w':=fun i h2 h3 l w'=>EndT.other h2 h3
            refine flow_take (i:=0) (t:=338) (oi:=⟨some 338,_,_,_,_,_⟩) rfl rfl (by kernel_rfl) (by kernel_rfl) (by kernel_rfl) HQ (HST 0) (does_load (by rfl) 86 _ rfl (zx + 1) 0 rfl (itA (topK K)).toList _ (fun l w' hF=>hF.b.all) Tryz.underlying86 rfl HZI.out) ?_
            try simp only [putL,List.set]
            refine flow_take (i:=1) (t:=339) (oi:=⟨some 339,_,_,_,_,_⟩) rfl rfl (by kernel_rfl) (by kernel_rfl) (by kernel_rfl) HQ (HST 1) (does_load (by rfl) 89 _ rfl z 0 rfl (logA 0 0 (s + 1) vC h2).toList _ (fun l w' hF=>hF.e.bl.all) Tryz.underlying89 rfl HZL.out) ?_
            try simp only [putL,List.set]
            refine flow_put (i:=2) (oi:=⟨none,_,_,_,_,none⟩) rfl rfl (stores_mid (i:=2) rfl 86 _ _ rfl (z + 1) 0 (itA (topK K)) rfl rfl (fun l w' h=>h.e.there1 rfl) HZI.out (itA_all _) (fun l w' h=>h.put1 HZG.out)) (by kernel_rfl) ?_
            try simp only [Array.set!,Array.setIfInBounds,putL,List.set]
            refine flow_store1 (i:=3) (oi:=⟨none,_,_,_,_,none⟩) rfl rfl (stores_mid (i:=3) rfl 89 _ _ rfl (z + 2) 0 (logA 0 0 (s + 1) vC h2) rfl rfl (fun l w' h=>h.e.there2) HZL.out (logA_all _ _ _ _ HV1.out) (fun l w' h=>h.put2 HZG.out)) (by kernel_rfl) (by kernel_rfl) (fun w9 h9=>?_)
            clear HST HQ
            go_wp2_with fail
            exact bodyPost_ret (results_row_row rfl _ _ (z + 1) 86 (itA (topK K)) (0,0) _ rfl (h9.e.res.1) Tryz.underlying86 rfl HZI.out (z + 2) 89 (logA 0 0 (s + 1) vC h2) (0,0) _ rfl (h9.e.res.2) Tryz.underlying89 rfl HZL.out) rfl ⟨_,rfl,h9.e.log,h9.e.x⟩
          ·as_aux_lemma =>
            have sn:=sane_of HVAL.out HFM.out
            have htk:=(takes_ok sn HUN.out HRE.out HXX.out).1
            have h0:1 ≤ K.length:=by
             have e:takesS x=1:=by exact takes_alone hop
             omega
            obtain ⟨bk,kc,hkv,hkc,_,hrk⟩:=own_form S3.out.st (by omega)
            obtain ⟨rfl,rfl⟩:vA2=some ⟨bk,0,none⟩∧vcap=kc:=by cases hkv; exact ⟨rfl,rfl⟩
            have HRK:=Lib.hid hrk
            obtain ⟨m,hm⟩:∃ m:Nat,K.length=m + 1:=⟨K.length - 1,by omega⟩
            have hm1:K.length - 1=m:=by omega
            have HM:=Lib.hid hm
            obtain rfl:nI=(m:Int):=by have:=HNI.out; omega
            have hmc:(m:Int) ≤ (vcap:Int):=by omega
            have hm0:(0:Int) ≤ (m:Int):=by omega
            clear hkv hrk htk hkc
            have h1:x.op=7 ∨ x.op=9 ∨ x.op=10 → 1 ≤ x.ty.bits∧x.ty.bits ≤ 31:=fun h=>kinst_int HI.out h
            obtain ⟨⟨n1,y⟩,hq⟩:∃ q,q=oneK ck x (topK K):=⟨_,rfl⟩
            have HAL:Hid (∀ w1,Calls Tryz.prog 116 #[.int .i64 x.op,.agg #[.int .i64 x.ty.base,.int .i64 x.ty.bits,.string x.ty.name,.bool x.ty.opt,.bool x.ty.err],.agg (itA (topK K)),.bool ck] w1 fun e w'=>e=.returned (.tuple #[.agg (itA (nv n1)),.int .i64 y])∧Ext w1 w'):=fun w1=>by
             have h9:=kalone_any x (topK K) ck w1 hop h1
             rw [← hq] at h9
             exact h9
            have HST0:Hid (stepK ck x p (fun i=>PL.getD i default) K=putK (n1,y) p (fun i=>PL.getD i default) (K.take m)):=by
             unfold Hid stepK
             rw [if_neg (by omega),if_neg (by omega),if_neg (by omega),if_neg (by omega),if_neg (by omega),if_neg (by omega),if_neg (by omega),if_neg (by omega),if_neg (by omega),if_neg (by omega),if_neg (by omega),if_neg (by omega),if_neg (by omega),if_neg (by omega),hm1,← hq]
            have HEND:Hid (∀ v wx,SkSt w0 z len 0 0 (s + 1) vC h2 gp PL base v (K.take m ++ [nv n1]) wx → SwR l ck d k f nc np w0 z len gp base s en t v (.int .i64 ((p + 1:Nat):Int)) (.int .i64 y) wx):=fun v wx h9=>by
             by_cases hy:y=0
             ·subst hy
              have hst:stepK ck x p (fun i=>PL.getD i default) K=.go (p + 1) (fun i=>PL.getD i default) (K.take m ++ [nv n1]):=by rw [HST0.out]; rfl
              obtain ⟨r1,r2⟩:=reach_go sn HUN.out HRE.out HXX.out hst
              exact SwR.go (p:=p + 1) (PL:=PL) rfl rfl HPL.out (by omega) (by omega) h9 HNC.out r1 r2 (HRX.out _ _ _ hst)
             ·have hst:stepK ck x p (fun i=>PL.getD i default) K=.done (.stop y):=by rw [HST0.out]; unfold putK; rw [show (y != 0)=true by simpa using hy]; rfl
              obtain ⟨e1,e2⟩:=HR.out.inv_done hlt (by rw [← HF.out,← HXX.out]; exact hst)
              exact SwR.stop (p:=p + 1) (PL:=PL) rfl rfl HPL.out (by omega) (by omega) h9 hy e1 e2
            have HTR:Hid (wc.rangeAt (zx + 1) 0 (itA (topK K)).toList):=BT5.out.all
            have b0:(x.op == 0)=false:=by rw [beq_eq_false_iff_ne]; omega
            have b1:(x.op == 1)=false:=by rw [beq_eq_false_iff_ne]; omega
            have b18:(x.op == 18)=false:=by rw [beq_eq_false_iff_ne]; omega
            have b2:(x.op == 2)=false:=by rw [beq_eq_false_iff_ne]; omega
            have b3:(x.op == 3)=false:=by rw [beq_eq_false_iff_ne]; omega
            have b4:(x.op == 4)=false:=by rw [beq_eq_false_iff_ne]; omega
            have b5:(x.op == 5)=false:=by rw [beq_eq_false_iff_ne]; omega
            have b6:(x.op == 6)=false:=by rw [beq_eq_false_iff_ne]; omega
            have HOP9:=Lib.hid hop
            clear hq hop h1
            go_upto_if 239 with fail
            go_cut [239] from 240 to 244 (fun v wx=>v=.bool true∧wx=wc)
            case first =>
             rcases (show x.op=7 ∨ x.op=8 ∨ x.op=9 ∨ x.op=10 ∨ x.op=11 by have:=HOP9.out; omega) with e | e | e | e | e
             all_goals
              have c7:=congrArg (fun z:Int=>z == 7) e
              have c8:=congrArg (fun z:Int=>z == 8) e
              have c9:=congrArg (fun z:Int=>z == 9) e
              have c10:=congrArg (fun z:Int=>z == 10) e
              have c11:=congrArg (fun z:Int=>z == 11) e
              simp only [Int.reduceBEq] at c7 c8 c9 c10 c11
              clear e
              go_wp2_with fail
              go_meet
              case rel=>exact ⟨congrArg Value.bool (by first | rfl | exact c7 | exact c8 | exact c9 | exact c10 | exact c11),rfl⟩
            case rest =>
             obtain ⟨rfl,rfl⟩:=hcut
             go_upto_region 58 with (first
              | ((with_reducible show wpList _ _ _ (Oper.mk (some 250) (.load 86 (.tmp 19)) _ _ _ _ :: _) _ _); refine wpList_load_mid rfl 86 _ rfl (zx + 1) 0 rfl (itA (topK K)).toList _ HTR.out Tryz.underlying86 rfl HZI.out ?_)
              | (go_at_call 116
                 refine (HAL.out _).mono ?_
                 rintro r w7 ⟨rfl,x7⟩
                 have X7:Hid (Ext w5 w7):=X5.out.trans x7
                 have BX7:=Lib.hid (BX5.out.ext x7)
                 have BT7:=Lib.hid (BT5.out.ext x7)
                 clear x7)
              | ((with_reducible show wpList _ _ _ (Oper.mk none (.store 86 (.tmp 19) _) _ _ _ _ :: _) _ _); refine wpList_store_row rfl 86 _ _ rfl (zx + 1) rfl 86 (itA (topK K)) (itA (nv n1)) BT7.out rfl rfl (itA_one _) HZI.out ?_))
             have X8:Hid (Ext w5 (w7.setRow (zx + 1) (itA (nv n1)))):=X7.out.setRow (by omega) _
             have BT8:Hid (Blk (w7.setRow (zx + 1) (itA (nv n1))) (zx + 1) 86 (itA (nv n1))):=BT7.out.row _
             generalize w7.setRow (zx + 1) (itA (nv n1))=w8 at X8 BT8 ⊢
             have S8:=Lib.hid (S3.out.ext' X8.out)
             have HR8:=Lib.hid (HRK.out.ext X8.out)
             clear X7 BX7 BT7 HTR
             obtain ⟨s9,hs9⟩:∃ s9,s9=s + 1:=⟨_,rfl⟩
             obtain ⟨vC9,hvC9⟩:∃ vC9,vC9=vC:=⟨_,rfl⟩
             obtain ⟨h9,hh9⟩:∃ h9,h9=h2:=⟨_,rfl⟩
             rw [← hs9,← hvC9,← hh9] at S8 HEND
             clear hs9 hvC9 hh9
             have r0:w8.cell? ⟨zx + 1,0,none⟩=some (.int .i64 n1):=BT8.out.cell 0
             have r1:w8.cell? ⟨zx + 1,1,none⟩=some (.bool false):=BT8.out.cell 1
             have r2:w8.cell? ⟨zx + 1,2,none⟩=some (.string ⟨#[]⟩):=BT8.out.cell 2
             have zr:=BT8.out.lt
             have hb0:base ≤ w8.heap.size:=S8.out.base_le
             have SA:=Lib.hid ((S8.out.ext' (Ext.refl _).drew).lit (q:=w8.heap.size) (by simp))
             have SB:Hid (SkSt w0 z len 0 0 s9 vC9 h9 gp PL base (.slice (some ⟨w8.heap.size,0,none⟩) 0 0) [] ((w8.drew.alloc (.cells #[] 86)).alloc (.cells (itA (nv n1)) 86))):=SA.out.ext' ((Ext.refl _).alloc _)
             have SC:Hid (SkSt w0 z len 0 0 s9 vC9 h9 gp PL base (.slice (some ⟨w8.heap.size + 1,0,none⟩) 0 0) [] ((w8.drew.alloc (.cells (itA (nv n1)) 86)).alloc (.cells #[] 86))):=(S8.out.ext' ((Ext.refl _).drew.alloc _)).lit (by simp)
             have OA:Hid (World.ownsRow (w8.drew.alloc (.cells #[] 86)) w8.heap.size 86 3 (.slice (some ⟨w8.heap.size,0,none⟩) 0 0) ([]:List Val).length (recCells 3 itC [])):=own_nothing w8.drew w8.heap.size _ _ _ (by simp) (Nat.le_refl _)
             have OB:Hid (World.ownsRow ((w8.drew.alloc (.cells #[] 86)).alloc (.cells (itA (nv n1)) 86)) w8.heap.size 86 3 (.slice (some ⟨w8.heap.size,0,none⟩) 0 0) ([]:List Val).length (recCells 3 itC [])):=own_ext OA.out ((Ext.refl _).alloc _)
             have OC:Hid (World.ownsRow ((w8.drew.alloc (.cells (itA (nv n1)) 86)).alloc (.cells #[] 86)) w8.heap.size 86 3 (.slice (some ⟨w8.heap.size + 1,0,none⟩) 0 0) ([]:List Val).length (recCells 3 itC [])):=own_nothing (w8.drew.alloc (.cells (itA (nv n1)) 86)) w8.heap.size _ _ _ (by simp) (by omega)
             have XA:Hid (Ext w8 (w8.drew.alloc (.cells #[] 86))):=(Ext.refl _).drew.alloc _
             have XB:Hid (Ext w8 ((w8.drew.alloc (.cells #[] 86)).alloc (.cells (itA (nv n1)) 86))):=((Ext.refl _).drew.alloc _).alloc _
             have XC:Hid (Ext w8 ((w8.drew.alloc (.cells (itA (nv n1)) 86)).alloc (.cells #[] 86))):=((Ext.refl _).drew.alloc _).alloc _
             have RA:=Lib.hid (its_take (m:=m) (HR8.out.ext XA.out) (by omega))
             have RB:=Lib.hid (its_take (m:=m) (HR8.out.ext XB.out) (by omega))
             have RC:=Lib.hid (its_take (m:=m) (HR8.out.ext XC.out) (by omega))
             have BB:Hid (Blk ((w8.drew.alloc (.cells #[] 86)).alloc (.cells (itA (nv n1)) 86)) (w8.heap.size + 1) 86 (itA (nv n1))):=blk_newer (by simp)
             have BC:Hid (Blk ((w8.drew.alloc (.cells (itA (nv n1)) 86)).alloc (.cells #[] 86)) w8.heap.size 86 (itA (nv n1))):=(blk_newer (by simp)).alloc _
             go_region_held3 (fun w'=>w'.cell? ⟨zx + 1,0,none⟩=some (.int .i64 n1)∧w'.cell? ⟨zx + 1,1,none⟩=some (.bool false)∧w'.cell? ⟨zx + 1,2,none⟩=some (.string ⟨#[]⟩)) (first | exact HS2.out | exact HS1.out | go_keep) (first
              | (refine step_bs_no (by rfl) (by rfl) ?_)
              | (refine step_bs_it (by rfl) _ (by rfl) (nv n1) (by rfl) ?_)
              | (refine step_its (by rfl) _ _ (by rfl) w8.heap.size _ [] (K.take m) (by rfl) OA.out bk 0 m vcap (by rw [List.length_take]; omega) (by rfl) RA.out (by rw [List.length_take]; simp; omega) XA.out.size ?_; intro v1 w1 st1 g1; have S1:=Lib.hid (SA.out.push g1 (own_low st1 hb0)); have X1:Hid (Ext w8 w1):=XA.out.grown g1 (fun q e=>by have h9:=Option.some.inj e; simp at h9; omega); have HS1:Hid (w1.cell? ⟨zx + 1,0,none⟩=some (.int .i64 n1)∧w1.cell? ⟨zx + 1,1,none⟩=some (.bool false)∧w1.cell? ⟨zx + 1,2,none⟩=some (.string ⟨#[]⟩)):=⟨(X1.out.cell (p:=⟨zx + 1,0,none⟩) zr).trans r0,(X1.out.cell (p:=⟨zx + 1,1,none⟩) zr).trans r1,(X1.out.cell (p:=⟨zx + 1,2,none⟩) zr).trans r2⟩)
              | (refine step_its (by rfl) _ _ (by rfl) w8.heap.size _ [] (K.take m) (by rfl) OB.out bk 0 m vcap (by rw [List.length_take]; omega) (by rfl) RB.out (by rw [List.length_take]; simp; omega) XB.out.size ?_; intro v1 w1 st1 g1; have S1:=Lib.hid (SB.out.push g1 (own_low st1 hb0)); have X1:Hid (Ext w8 w1):=XB.out.grown g1 (fun q e=>by have h9:=Option.some.inj e; simp at h9; omega); have HS1:Hid (w1.cell? ⟨zx + 1,0,none⟩=some (.int .i64 n1)∧w1.cell? ⟨zx + 1,1,none⟩=some (.bool false)∧w1.cell? ⟨zx + 1,2,none⟩=some (.string ⟨#[]⟩)):=⟨(X1.out.cell (p:=⟨zx + 1,0,none⟩) zr).trans r0,(X1.out.cell (p:=⟨zx + 1,1,none⟩) zr).trans r1,(X1.out.cell (p:=⟨zx + 1,2,none⟩) zr).trans r2⟩; have BL1:=Lib.hid (BB.out.grown g1 (fun e=>by have h9:=Option.some.inj e; simp at h9)))
              | (refine step_its (by rfl) _ _ (by rfl) w8.heap.size _ [] (K.take m) (by rfl) OC.out bk 0 m vcap (by rw [List.length_take]; omega) (by rfl) RC.out (by rw [List.length_take]; simp; omega) XC.out.size ?_; intro v1 w1 st1 g1; have S1:=Lib.hid (SC.out.push g1 (own_low st1 hb0)); have X1:Hid (Ext w8 w1):=XC.out.grown g1 (fun q e=>by have h9:=Option.some.inj e; simp at h9; omega); have HS1:Hid (w1.cell? ⟨zx + 1,0,none⟩=some (.int .i64 n1)∧w1.cell? ⟨zx + 1,1,none⟩=some (.bool false)∧w1.cell? ⟨zx + 1,2,none⟩=some (.string ⟨#[]⟩)):=⟨(X1.out.cell (p:=⟨zx + 1,0,none⟩) zr).trans r0,(X1.out.cell (p:=⟨zx + 1,1,none⟩) zr).trans r1,(X1.out.cell (p:=⟨zx + 1,2,none⟩) zr).trans r2⟩; have BL1:=Lib.hid (BC.out.grown g1 (fun e=>by have h9:=Option.some.inj e; simp at h9)))
              | (refine step_its (by rfl) _ _ (by rfl) w8.heap.size _ ([] ++ K.take m) [nv n1] (by rfl) (own_ext st1 ((Ext.refl _).alloc (.cells (itA (nv n1)) 86))) w1.heap.size 0 1 1 (by rfl) (by rfl) (lit_its (blk_newer rfl)) (by simp; omega) (X1.out.alloc (.cells (itA (nv n1)) 86)).size ?_; intro v2 w2 st2 g2; have S2:=Lib.hid ((S1.out.ext' ((Ext.refl _).alloc (.cells (itA (nv n1)) 86))).push g2 (own_low st2 hb0)); have X2:Hid (Ext w8 w2):=(X1.out.alloc (.cells (itA (nv n1)) 86)).grown g2 (fun q e=>(st1.lt q e).1); have HS2:Hid (w2.cell? ⟨zx + 1,0,none⟩=some (.int .i64 n1)∧w2.cell? ⟨zx + 1,1,none⟩=some (.bool false)∧w2.cell? ⟨zx + 1,2,none⟩=some (.string ⟨#[]⟩)):=⟨(X2.out.cell (p:=⟨zx + 1,0,none⟩) zr).trans r0,(X2.out.cell (p:=⟨zx + 1,1,none⟩) zr).trans r1,(X2.out.cell (p:=⟨zx + 1,2,none⟩) zr).trans r2⟩)
              | (refine step_its (by rfl) _ _ (by rfl) w8.heap.size _ ([] ++ K.take m) [nv n1] (by rfl) st1 _ 0 1 1 (by rfl) (by rfl) (lit_its BL1.out) (by simp; omega) X1.out.size ?_; intro v2 w2 st2 g2; have S2:=Lib.hid (S1.out.push g2 (own_low st2 hb0)); have X2:Hid (Ext w8 w2):=X1.out.grown g2 (fun q e=>(st1.lt q e).1); have HS2:Hid (w2.cell? ⟨zx + 1,0,none⟩=some (.int .i64 n1)∧w2.cell? ⟨zx + 1,1,none⟩=some (.bool false)∧w2.cell? ⟨zx + 1,2,none⟩=some (.string ⟨#[]⟩)):=⟨(X2.out.cell (p:=⟨zx + 1,0,none⟩) zr).trans r0,(X2.out.cell (p:=⟨zx + 1,1,none⟩) zr).trans r1,(X2.out.cell (p:=⟨zx + 1,2,none⟩) zr).trans r2⟩))
             all_goals
              go_wp2_with fail
              go_meet
              case rel=>exact HEND.out _ _ S2.out
          ·as_aux_lemma =>
            have sn:=sane_of HVAL.out HFM.out
            have htk:=(takes_ok sn HUN.out HRE.out HXX.out).1
            have h0:2 ≤ K.length:=by
             have e:takesS x=2:=by simp [takesS,hop]
             omega
            obtain ⟨bk,kc,hkv,hkc,_,hrk⟩:=own_form S3.out.st (by omega)
            obtain ⟨rfl,rfl⟩:vA2=some ⟨bk,0,none⟩∧vcap=kc:=by cases hkv; exact ⟨rfl,rfl⟩
            have HRK:=Lib.hid hrk
            obtain ⟨m,hm⟩:∃ m:Nat,K.length=m + 2:=⟨K.length - 2,by omega⟩
            have hm2:K.length - 2=m:=by omega
            obtain ⟨m1,hm1⟩:∃ m1:Nat,m1=m + 1:=⟨_,rfl⟩
            obtain rfl:nI=(m1:Int):=by have:=HNI.out; omega
            have hw9:IntKind.i64.wrap ((m1:Int) - 1)=(m:Int):=by rw [IntWalk.i64_in _ (by omega)]; omega
            have hmb:(m:Int) < (K.length:Int):=by omega
            have hmc:(m:Int) ≤ (vcap:Int):=by omega
            have hm0:(0:Int) ≤ (m:Int):=by omega
            have hmle:m ≤ K.length:=by omega
            obtain ⟨u,hu⟩:∃ u,u=K.getD m default:=⟨_,rfl⟩
            have HRU:Hid (wc.rangeAt bk (m * 3) (itA u).toList):=(hrk.ext X5.out).range (by omega) hu
            clear hkv hrk htk hkc
            obtain ⟨⟨n1,y⟩,hq⟩:∃ q,q=twoK ck x u (topK K):=⟨_,rfl⟩
            have hio:=kinst_oper HI.out hop
            have HOP:Hid (∀ w1,Calls Tryz.prog 114 #[.int .i64 x.a,.agg #[.int .i64 x.ty.base,.int .i64 x.ty.bits,.string x.ty.name,.bool x.ty.opt,.bool x.ty.err],.agg (itA u),.agg (itA (topK K)),.bool ck] w1 fun e w'=>e=.returned (.tuple #[.agg (itA (nv n1)),.int .i64 y])∧Ext w1 w'):=fun w1=>by
             have h9:=koper_any x u (topK K) ck w1 hio.2.1 hio.2.2 hop hio.1
             rw [← hq] at h9
             exact h9
            have HST0:Hid (stepK ck x p (fun i=>PL.getD i default) K=putK (n1,y) p (fun i=>PL.getD i default) (K.take m)):=by
             unfold Hid
             have e:stepK ck x p (fun i=>PL.getD i default) K=putK (twoK ck x (K.getD (K.length - 2) default) (topK K)) p (fun i=>PL.getD i default) (K.take (K.length - 2)):=by simp [stepK,hop]
             rw [e,hm2,← hu,← hq]
            have HEND:Hid (∀ v wx,SkSt w0 z len 0 0 (s + 1) vC h2 gp PL base v (K.take m ++ [nv n1]) wx → SwR l ck d k f nc np w0 z len gp base s en t v (.int .i64 ((p + 1:Nat):Int)) (.int .i64 y) wx):=fun v wx h9=>by
             by_cases hy:y=0
             ·subst hy
              have hst:stepK ck x p (fun i=>PL.getD i default) K=.go (p + 1) (fun i=>PL.getD i default) (K.take m ++ [nv n1]):=by rw [HST0.out]; rfl
              obtain ⟨r1,r2⟩:=reach_go sn HUN.out HRE.out HXX.out hst
              exact SwR.go (p:=p + 1) (PL:=PL) rfl rfl HPL.out (by omega) (by omega) h9 HNC.out r1 r2 (HRX.out _ _ _ hst)
             ·have hst:stepK ck x p (fun i=>PL.getD i default) K=.done (.stop y):=by rw [HST0.out]; unfold putK; rw [show (y != 0)=true by simpa using hy]; rfl
              obtain ⟨e1,e2⟩:=HR.out.inv_done hlt (by rw [← HF.out,← HXX.out]; exact hst)
              exact SwR.stop (p:=p + 1) (PL:=PL) rfl rfl HPL.out (by omega) (by omega) h9 hy e1 e2
            rw [hop] at q0 ⊢
            clear hq hop hio hu hm hm1 hm2 h0
            go_upto_region 48 with fail
            have u0:wc.cell? ⟨bk,m * 3,none⟩=some (.int .i64 u.n):=HRU.out 0 _ rfl
            have u1:wc.cell? ⟨bk,m * 3 + 1,none⟩=some (.bool u.null):=HRU.out 1 _ rfl
            have u2:wc.cell? ⟨bk,m * 3 + 2,none⟩=some (.string u.err):=HRU.out 2 _ rfl
            have zbk:bk < wc.heap.size:=(HRK.out.ext X5.out).lt
            have t0:wc.cell? ⟨zx + 1,0,none⟩=some (.int .i64 (topK K).n):=BT5.out.cell 0
            have t1:wc.cell? ⟨zx + 1,1,none⟩=some (.bool (topK K).null):=BT5.out.cell 1
            have t2:wc.cell? ⟨zx + 1,2,none⟩=some (.string (topK K).err):=BT5.out.cell 2
            have zt:=BT5.out.lt
            have HD:Hid (∀ (w':World) {l':Array Bool},l'.getD 15 false=false → F5 w5 wc (zx + 1) #[.int .i64 n1,.bool false,.string ⟨#[]⟩] l' w' → w'.cell? ⟨zx,1,none⟩=some (.int .i64 x.a)∧w'.cell? ⟨zx,3,none⟩=some (.int .i64 x.ty.base)∧w'.cell? ⟨zx,4,none⟩=some (.int .i64 x.ty.bits)∧w'.cell? ⟨zx,5,none⟩=some (.string x.ty.name)∧w'.cell? ⟨zx,6,none⟩=some (.bool x.ty.opt)∧w'.cell? ⟨zx,7,none⟩=some (.bool x.ty.err)∧w'.cell? ⟨bk,m * 3,none⟩=some (.int .i64 u.n)∧w'.cell? ⟨bk,m * 3 + 1,none⟩=some (.bool u.null)∧w'.cell? ⟨bk,m * 3 + 2,none⟩=some (.string u.err)∧w'.cell? ⟨zx + 1,0,none⟩=some (.int .i64 (topK K).n)∧w'.cell? ⟨zx + 1,1,none⟩=some (.bool (topK K).null)∧w'.cell? ⟨zx + 1,2,none⟩=some (.string (topK K).err)):=fun w' l' h15 h=>⟨((h.k h15).cell (p:=⟨zx,1,none⟩) zq).trans q1,((h.k h15).cell (p:=⟨zx,3,none⟩) zq).trans q3,((h.k h15).cell (p:=⟨zx,4,none⟩) zq).trans q4,((h.k h15).cell (p:=⟨zx,5,none⟩) zq).trans q5,((h.k h15).cell (p:=⟨zx,6,none⟩) zq).trans q6,((h.k h15).cell (p:=⟨zx,7,none⟩) zq).trans q7,((h.k h15).cell (p:=⟨bk,m * 3,none⟩) zbk).trans u0,((h.k h15).cell (p:=⟨bk,m * 3 + 1,none⟩) zbk).trans u1,((h.k h15).cell (p:=⟨bk,m * 3 + 2,none⟩) zbk).trans u2,((h.k h15).cell (p:=⟨zx + 1,0,none⟩) zt).trans t0,((h.k h15).cell (p:=⟨zx + 1,1,none⟩) zt).trans t1,((h.k h15).cell (p:=⟨zx + 1,2,none⟩) zt).trans t2⟩
            have HST:∀ (i:Nat) (_:i ≠ 15:=by decide) (l':Array Bool) (w':World),F5 w5 wc (zx + 1) #[.int .i64 n1,.bool false,.string ⟨#[]⟩] (l'.setIfInBounds i true) w' ↔ F5 w5 wc (zx + 1) #[.int .i64 n1,.bool false,.string ⟨#[]⟩] l' w':=fun i hi l' w'=>F5.same hi l' w'
            have HC:Hid (∀ (l':Array Bool) (w':World),l'.getD 15 false=false → F5 w5 wc (zx + 1) #[.int .i64 n1,.bool false,.string ⟨#[]⟩] l' w' → Calls Tryz.prog 114 #[.int .i64 x.a,.agg #[.int .i64 x.ty.base,.int .i64 x.ty.bits,.string x.ty.name,.bool x.ty.opt,.bool x.ty.err],.agg #[.int .i64 u.n,.bool u.null,.string u.err],.agg #[.int .i64 (topK K).n,.bool (topK K).null,.string (topK K).err],.bool ck] w' fun e w''=>e=.returned (.tuple #[.agg #[.int .i64 n1,.bool false,.string ⟨#[]⟩],.int .i64 y])∧F5 w5 wc (zx + 1) #[.int .i64 n1,.bool false,.string ⟨#[]⟩] l' w''):=fun l' w' _ h=>(HOP.out w').mono fun e w'' q=>⟨q.1,h.ext' q.2⟩
            clear u0 u1 u2 zbk t0 t1 t2 zt q0 q1 q2 q3 q4 q5 q6 q7 q8 zq
            refine flow_begin (F5 w5 wc (zx + 1) #[.int .i64 n1,.bool false,.string ⟨#[]⟩]) #[false,false,false,false,false,false,false,false,false,false,false,false,false,false,false,false,false] rfl (by kernel_rfl) (fun _ _ _ _ _ h=>h) ((F5.start X5.out BT5.out)) (fun HQ=>?_)
            (refine ttK 0 15 197 rfl HQ (HST 0) ?_; try simp only [putL,List.set])
            (refine ttK 1 15 198 rfl HQ (HST 1) ?_; try simp only [putL,List.set])
            (refine ttK 2 15 199 rfl HQ (HST 2) ?_; try simp only [putL,List.set])
            (refine ttK 3 15 200 rfl HQ (HST 3) ?_; try simp only [putL,List.set])
            (refine ttK 4 15 201 rfl HQ (HST 4) ?_; try simp only [putL,List.set])
            (refine ttK 5 15 202 rfl HQ (HST 5) ?_; try simp only [putL,List.set])
            (refine ttK 6 15 203 rfl HQ (HST 6) ?_; try simp only [putL,List.set])
            (refine ttK 7 15 204 rfl HQ (HST 7) ?_; try simp only [putL,List.set])
            (refine ttK 8 15 205 rfl HQ (HST 8) ?_; try simp only [putL,List.set])
            (refine ttK 9 15 206 rfl HQ (HST 9) ?_; try simp only [putL,List.set])
            (refine ttK 10 15 207 rfl HQ (HST 10) ?_; try simp only [putL,List.set])
            (refine tcK 11 15 208 rfl (by kernel_rfl) HQ (HST 11) (by rfl) (fun l w' hlk hF=>?_) ((HC.out)) ?_; (focus (have hq:=HD.out _ hlk hF; go_simp; try simp only [enters_oper _ _])); try simp only [putL,List.set])
            (refine tp 12 196 rfl HQ (HST 12) ?_; try simp only [putL,List.set])
            (refine tp 13 209 rfl HQ (HST 13) ?_; try simp only [putL,List.set])
            (refine tp 14 210 rfl HQ (HST 14) ?_; try simp only [putL,List.set])
            refine flow_put (i:=15) (oi:=⟨none,_,_,_,_,none⟩) rfl rfl (stores_mid (i:=15) rfl 86 _ _ rfl (zx + 1) 0 #[.int .i64 n1,.bool false,.string ⟨#[]⟩] rfl rfl (fun l w' h=>h.there rfl) HZI.out (itA_all (nv n1)) (fun l w' h=>h.put rfl (by omega))) (by kernel_rfl) ?_
            try simp only [List.setIfInBounds_toArray,List.set_cons_zero,List.set_cons_succ]
            (refine tp 16 21 rfl HQ (HST 16) ?_; try simp only [putL,List.set])
            refine flow_done (by kernel_rfl) ?_
            intro w8 hF8
            have X8:Hid (Ext w5 w8):=hF8.x
            have BT8:Hid (Blk w8 (zx + 1) 86 (itA (nv n1))):=hF8.b rfl
            have S8:=Lib.hid (S3.out.ext' X8.out)
            have HR8:=Lib.hid (HRK.out.ext X8.out)
            clear HD HST HC HQ hF8
            obtain ⟨s9,hs9⟩:∃ s9,s9=s + 1:=⟨_,rfl⟩
            obtain ⟨vC9,hvC9⟩:∃ vC9,vC9=vC:=⟨_,rfl⟩
            obtain ⟨h9,hh9⟩:∃ h9,h9=h2:=⟨_,rfl⟩
            rw [← hs9,← hvC9,← hh9] at S8 HEND
            clear hs9 hvC9 hh9
            go_upto_region 49 with fail
            have r0:w8.cell? ⟨zx + 1,0,none⟩=some (.int .i64 n1):=BT8.out.cell 0
            have r1:w8.cell? ⟨zx + 1,1,none⟩=some (.bool false):=BT8.out.cell 1
            have r2:w8.cell? ⟨zx + 1,2,none⟩=some (.string ⟨#[]⟩):=BT8.out.cell 2
            have zr:=BT8.out.lt
            have hb0:base ≤ w8.heap.size:=S8.out.base_le
            have SA:=Lib.hid ((S8.out.ext' (Ext.refl _).drew).lit (q:=w8.heap.size) (by simp))
            have SB:Hid (SkSt w0 z len 0 0 s9 vC9 h9 gp PL base (.slice (some ⟨w8.heap.size,0,none⟩) 0 0) [] ((w8.drew.alloc (.cells #[] 86)).alloc (.cells (itA (nv n1)) 86))):=SA.out.ext' ((Ext.refl _).alloc _)
            have SC:Hid (SkSt w0 z len 0 0 s9 vC9 h9 gp PL base (.slice (some ⟨w8.heap.size + 1,0,none⟩) 0 0) [] ((w8.drew.alloc (.cells (itA (nv n1)) 86)).alloc (.cells #[] 86))):=(S8.out.ext' ((Ext.refl _).drew.alloc _)).lit (by simp)
            have OA:Hid (World.ownsRow (w8.drew.alloc (.cells #[] 86)) w8.heap.size 86 3 (.slice (some ⟨w8.heap.size,0,none⟩) 0 0) ([]:List Val).length (recCells 3 itC [])):=own_nothing w8.drew w8.heap.size _ _ _ (by simp) (Nat.le_refl _)
            have OB:Hid (World.ownsRow ((w8.drew.alloc (.cells #[] 86)).alloc (.cells (itA (nv n1)) 86)) w8.heap.size 86 3 (.slice (some ⟨w8.heap.size,0,none⟩) 0 0) ([]:List Val).length (recCells 3 itC [])):=own_ext OA.out ((Ext.refl _).alloc _)
            have OC:Hid (World.ownsRow ((w8.drew.alloc (.cells (itA (nv n1)) 86)).alloc (.cells #[] 86)) w8.heap.size 86 3 (.slice (some ⟨w8.heap.size + 1,0,none⟩) 0 0) ([]:List Val).length (recCells 3 itC [])):=own_nothing (w8.drew.alloc (.cells (itA (nv n1)) 86)) w8.heap.size _ _ _ (by simp) (by omega)
            have XA:Hid (Ext w8 (w8.drew.alloc (.cells #[] 86))):=(Ext.refl _).drew.alloc _
            have XB:Hid (Ext w8 ((w8.drew.alloc (.cells #[] 86)).alloc (.cells (itA (nv n1)) 86))):=((Ext.refl _).drew.alloc _).alloc _
            have XC:Hid (Ext w8 ((w8.drew.alloc (.cells (itA (nv n1)) 86)).alloc (.cells #[] 86))):=((Ext.refl _).drew.alloc _).alloc _
            have RA:=Lib.hid (its_take (m:=m) (HR8.out.ext XA.out) (by omega))
            have RB:=Lib.hid (its_take (m:=m) (HR8.out.ext XB.out) (by omega))
            have RC:=Lib.hid (its_take (m:=m) (HR8.out.ext XC.out) (by omega))
            have BB:Hid (Blk ((w8.drew.alloc (.cells #[] 86)).alloc (.cells (itA (nv n1)) 86)) (w8.heap.size + 1) 86 (itA (nv n1))):=blk_newer (by simp)
            have BC:Hid (Blk ((w8.drew.alloc (.cells (itA (nv n1)) 86)).alloc (.cells #[] 86)) w8.heap.size 86 (itA (nv n1))):=(blk_newer (by simp)).alloc _
            go_region_held3 (fun w'=>w'.cell? ⟨zx + 1,0,none⟩=some (.int .i64 n1)∧w'.cell? ⟨zx + 1,1,none⟩=some (.bool false)∧w'.cell? ⟨zx + 1,2,none⟩=some (.string ⟨#[]⟩)) (first | exact HS2.out | exact HS1.out | go_keep) (first
             | (refine step_bs_no (by rfl) (by rfl) ?_)
             | (refine step_bs_it (by rfl) _ (by rfl) (nv n1) (by rfl) ?_)
             | (refine step_its (by rfl) _ _ (by rfl) w8.heap.size _ [] (K.take m) (by rfl) OA.out bk 0 m vcap (by rw [List.length_take]; omega) (by rfl) RA.out (by rw [List.length_take]; simp; omega) XA.out.size ?_; intro v1 w1 st1 g1; have S1:=Lib.hid (SA.out.push g1 (own_low st1 hb0)); have X1:Hid (Ext w8 w1):=XA.out.grown g1 (fun q e=>by have h9:=Option.some.inj e; simp at h9; omega); have HS1:Hid (w1.cell? ⟨zx + 1,0,none⟩=some (.int .i64 n1)∧w1.cell? ⟨zx + 1,1,none⟩=some (.bool false)∧w1.cell? ⟨zx + 1,2,none⟩=some (.string ⟨#[]⟩)):=⟨(X1.out.cell (p:=⟨zx + 1,0,none⟩) zr).trans r0,(X1.out.cell (p:=⟨zx + 1,1,none⟩) zr).trans r1,(X1.out.cell (p:=⟨zx + 1,2,none⟩) zr).trans r2⟩)
             | (refine step_its (by rfl) _ _ (by rfl) w8.heap.size _ [] (K.take m) (by rfl) OB.out bk 0 m vcap (by rw [List.length_take]; omega) (by rfl) RB.out (by rw [List.length_take]; simp; omega) XB.out.size ?_; intro v1 w1 st1 g1; have S1:=Lib.hid (SB.out.push g1 (own_low st1 hb0)); have X1:Hid (Ext w8 w1):=XB.out.grown g1 (fun q e=>by have h9:=Option.some.inj e; simp at h9; omega); have HS1:Hid (w1.cell? ⟨zx + 1,0,none⟩=some (.int .i64 n1)∧w1.cell? ⟨zx + 1,1,none⟩=some (.bool false)∧w1.cell? ⟨zx + 1,2,none⟩=some (.string ⟨#[]⟩)):=⟨(X1.out.cell (p:=⟨zx + 1,0,none⟩) zr).trans r0,(X1.out.cell (p:=⟨zx + 1,1,none⟩) zr).trans r1,(X1.out.cell (p:=⟨zx + 1,2,none⟩) zr).trans r2⟩; have BL1:=Lib.hid (BB.out.grown g1 (fun e=>by have h9:=Option.some.inj e; simp at h9)))
             | (refine step_its (by rfl) _ _ (by rfl) w8.heap.size _ [] (K.take m) (by rfl) OC.out bk 0 m vcap (by rw [List.length_take]; omega) (by rfl) RC.out (by rw [List.length_take]; simp; omega) XC.out.size ?_; intro v1 w1 st1 g1; have S1:=Lib.hid (SC.out.push g1 (own_low st1 hb0)); have X1:Hid (Ext w8 w1):=XC.out.grown g1 (fun q e=>by have h9:=Option.some.inj e; simp at h9; omega); have HS1:Hid (w1.cell? ⟨zx + 1,0,none⟩=some (.int .i64 n1)∧w1.cell? ⟨zx + 1,1,none⟩=some (.bool false)∧w1.cell? ⟨zx + 1,2,none⟩=some (.string ⟨#[]⟩)):=⟨(X1.out.cell (p:=⟨zx + 1,0,none⟩) zr).trans r0,(X1.out.cell (p:=⟨zx + 1,1,none⟩) zr).trans r1,(X1.out.cell (p:=⟨zx + 1,2,none⟩) zr).trans r2⟩; have BL1:=Lib.hid (BC.out.grown g1 (fun e=>by have h9:=Option.some.inj e; simp at h9)))
             | (refine step_its (by rfl) _ _ (by rfl) w8.heap.size _ ([] ++ K.take m) [nv n1] (by rfl) (own_ext st1 ((Ext.refl _).alloc (.cells (itA (nv n1)) 86))) w1.heap.size 0 1 1 (by rfl) (by rfl) (lit_its (blk_newer rfl)) (by simp; omega) (X1.out.alloc (.cells (itA (nv n1)) 86)).size ?_; intro v2 w2 st2 g2; have S2:=Lib.hid ((S1.out.ext' ((Ext.refl _).alloc (.cells (itA (nv n1)) 86))).push g2 (own_low st2 hb0)); have X2:Hid (Ext w8 w2):=(X1.out.alloc (.cells (itA (nv n1)) 86)).grown g2 (fun q e=>(st1.lt q e).1); have HS2:Hid (w2.cell? ⟨zx + 1,0,none⟩=some (.int .i64 n1)∧w2.cell? ⟨zx + 1,1,none⟩=some (.bool false)∧w2.cell? ⟨zx + 1,2,none⟩=some (.string ⟨#[]⟩)):=⟨(X2.out.cell (p:=⟨zx + 1,0,none⟩) zr).trans r0,(X2.out.cell (p:=⟨zx + 1,1,none⟩) zr).trans r1,(X2.out.cell (p:=⟨zx + 1,2,none⟩) zr).trans r2⟩)
             | (refine step_its (by rfl) _ _ (by rfl) w8.heap.size _ ([] ++ K.take m) [nv n1] (by rfl) st1 _ 0 1 1 (by rfl) (by rfl) (lit_its BL1.out) (by simp; omega) X1.out.size ?_; intro v2 w2 st2 g2; have S2:=Lib.hid (S1.out.push g2 (own_low st2 hb0)); have X2:Hid (Ext w8 w2):=X1.out.grown g2 (fun q e=>(st1.lt q e).1); have HS2:Hid (w2.cell? ⟨zx + 1,0,none⟩=some (.int .i64 n1)∧w2.cell? ⟨zx + 1,1,none⟩=some (.bool false)∧w2.cell? ⟨zx + 1,2,none⟩=some (.string ⟨#[]⟩)):=⟨(X2.out.cell (p:=⟨zx + 1,0,none⟩) zr).trans r0,(X2.out.cell (p:=⟨zx + 1,1,none⟩) zr).trans r1,(X2.out.cell (p:=⟨zx + 1,2,none⟩) zr).trans r2⟩))
            all_goals
             go_wp2_with fail
             go_meet
             case rel=>exact HEND.out _ _ S2.out
          ·as_aux_lemma =>
            have sn:=sane_of HVAL.out HFM.out
            have htk:=(takes_ok sn HUN.out HRE.out HXX.out).1
            have h0:2 ≤ K.length:=by
             have e:takesS x=2:=by simp [takesS,hop]
             omega
            obtain ⟨bk,kc,hkv,hkc,_,hrk⟩:=own_form S3.out.st (by omega)
            obtain ⟨rfl,rfl⟩:vA2=some ⟨bk,0,none⟩∧vcap=kc:=by cases hkv; exact ⟨rfl,rfl⟩
            have HRK:=Lib.hid hrk
            obtain ⟨m,hm⟩:∃ m:Nat,K.length=m + 2:=⟨K.length - 2,by omega⟩
            have hm2:K.length - 2=m:=by omega
            obtain ⟨m1,hm1⟩:∃ m1:Nat,m1=m + 1:=⟨_,rfl⟩
            obtain rfl:nI=(m1:Int):=by have:=HNI.out; omega
            have hw9:IntKind.i64.wrap ((m1:Int) - 1)=(m:Int):=by rw [IntWalk.i64_in _ (by omega)]; omega
            have hmb:(m:Int) < (K.length:Int):=by omega
            have hmc:(m:Int) ≤ (vcap:Int):=by omega
            have hm0:(0:Int) ≤ (m:Int):=by omega
            have hmle:m ≤ K.length:=by omega
            obtain ⟨u,hu⟩:∃ u,u=K.getD m default:=⟨_,rfl⟩
            have HRU:Hid (wc.rangeAt bk (m * 3) (itA u).toList):=(hrk.ext X5.out).range (by omega) hu
            clear hkv hrk htk hkc
            obtain ⟨n1,hn1⟩:∃ n1,n1=b01 (cmpB x.a u.n (topK K).n):=⟨_,rfl⟩
            obtain ⟨y,hy0⟩:∃ y:Int,y=0:=⟨_,rfl⟩
            have HCM:Hid (∀ w1,Calls Tryz.prog 115 #[.int .i64 x.a,.agg (itA u),.agg (itA (topK K))] w1 fun e w'=>e=.returned (.agg #[.int .i64 n1,.bool false,.string ⟨#[]⟩])∧Ext w1 w'):=fun w1=>by
             have h9:=kcompared_any x.a u (topK K) w1
             rw [← hn1] at h9
             exact h9
            have HST0:Hid (stepK ck x p (fun i=>PL.getD i default) K=putK (n1,y) p (fun i=>PL.getD i default) (K.take m)):=by
             unfold Hid
             have e:stepK ck x p (fun i=>PL.getD i default) K=putK (twoK ck x (K.getD (K.length - 2) default) (topK K)) p (fun i=>PL.getD i default) (K.take (K.length - 2)):=by simp [stepK,hop]
             rw [e,hm2,← hu,hn1,hy0]
             simp [twoK,hop]
            have HEND:Hid (∀ v wx,SkSt w0 z len 0 0 (s + 1) vC h2 gp PL base v (K.take m ++ [nv n1]) wx → SwR l ck d k f nc np w0 z len gp base s en t v (.int .i64 ((p + 1:Nat):Int)) (.int .i64 y) wx):=fun v wx h9=>by
             by_cases hy:y=0
             ·subst hy
              have hst:stepK ck x p (fun i=>PL.getD i default) K=.go (p + 1) (fun i=>PL.getD i default) (K.take m ++ [nv n1]):=by rw [HST0.out]; rfl
              obtain ⟨r1,r2⟩:=reach_go sn HUN.out HRE.out HXX.out hst
              exact SwR.go (p:=p + 1) (PL:=PL) rfl rfl HPL.out (by omega) (by omega) h9 HNC.out r1 r2 (HRX.out _ _ _ hst)
             ·have hst:stepK ck x p (fun i=>PL.getD i default) K=.done (.stop y):=by rw [HST0.out]; unfold putK; rw [show (y != 0)=true by simpa using hy]; rfl
              obtain ⟨e1,e2⟩:=HR.out.inv_done hlt (by rw [← HF.out,← HXX.out]; exact hst)
              exact SwR.stop (p:=p + 1) (PL:=PL) rfl rfl HPL.out (by omega) (by omega) h9 hy e1 e2
            subst hy0
            rw [hop] at q0 ⊢
            clear hn1 hop hu hm hm1 hm2 h0
            go_upto_region 51 with fail
            have u0:wc.cell? ⟨bk,m * 3,none⟩=some (.int .i64 u.n):=HRU.out 0 _ rfl
            have u1:wc.cell? ⟨bk,m * 3 + 1,none⟩=some (.bool u.null):=HRU.out 1 _ rfl
            have u2:wc.cell? ⟨bk,m * 3 + 2,none⟩=some (.string u.err):=HRU.out 2 _ rfl
            have zbk:bk < wc.heap.size:=(HRK.out.ext X5.out).lt
            have t0:wc.cell? ⟨zx + 1,0,none⟩=some (.int .i64 (topK K).n):=BT5.out.cell 0
            have t1:wc.cell? ⟨zx + 1,1,none⟩=some (.bool (topK K).null):=BT5.out.cell 1
            have t2:wc.cell? ⟨zx + 1,2,none⟩=some (.string (topK K).err):=BT5.out.cell 2
            have zt:=BT5.out.lt
            have S8:=Lib.hid (S3.out.ext' X5.out)
            have SA:=Lib.hid ((S8.out.ext' (Ext.refl _).drew).lit (q:=wc.heap.size) (by simp))
            have HR8:=Lib.hid (HRK.out.ext X5.out)
            have hb0:base ≤ wc.heap.size:=S8.out.base_le
            have OA:Hid (World.ownsRow (wc.drew.alloc (.cells #[] 86)) wc.heap.size 86 3 (.slice (some ⟨wc.heap.size,0,none⟩) 0 0) ([]:List Val).length (recCells 3 itC [])):=own_nothing wc.drew wc.heap.size _ _ _ (by simp) (Nat.le_refl _)
            have XA:Hid (Ext wc (wc.drew.alloc (.cells #[] 86))):=(Ext.refl _).drew.alloc _
            have RA:=Lib.hid (its_take (m:=m) (HR8.out.ext XA.out) (by omega))
            go_region_held3 (fun w'=>w'.cell? ⟨zx,1,none⟩=some (.int .i64 x.a)∧w'.cell? ⟨bk,m * 3,none⟩=some (.int .i64 u.n)∧w'.cell? ⟨bk,m * 3 + 1,none⟩=some (.bool u.null)∧w'.cell? ⟨bk,m * 3 + 2,none⟩=some (.string u.err)∧w'.cell? ⟨zx + 1,0,none⟩=some (.int .i64 (topK K).n)∧w'.cell? ⟨zx + 1,1,none⟩=some (.bool (topK K).null)∧w'.cell? ⟨zx + 1,2,none⟩=some (.string (topK K).err)) (first | exact HS3.out | exact HS2.out | exact HS1.out | go_keep) (first
             | (refine step_bs_no (by rfl) (by rfl) ?_)
             | (refine step_bs_it (by rfl) _ (by rfl) (nv n1) (by rfl) ?_)
             | (go_at_call 115
                refine (HCM.out _).mono ?_
                rintro r w7 ⟨rfl,x7⟩
                have S7:=Lib.hid (S1.out.ext' x7)
                have X7:Hid (Ext wc w7):=X1.out.trans x7
                have O7:=Lib.hid (own_ext st1 x7)
                have HS2:Hid (w7.cell? ⟨zx,1,none⟩=some (.int .i64 x.a)∧w7.cell? ⟨bk,m * 3,none⟩=some (.int .i64 u.n)∧w7.cell? ⟨bk,m * 3 + 1,none⟩=some (.bool u.null)∧w7.cell? ⟨bk,m * 3 + 2,none⟩=some (.string u.err)∧w7.cell? ⟨zx + 1,0,none⟩=some (.int .i64 (topK K).n)∧w7.cell? ⟨zx + 1,1,none⟩=some (.bool (topK K).null)∧w7.cell? ⟨zx + 1,2,none⟩=some (.string (topK K).err)):=⟨(X7.out.cell (p:=⟨zx,1,none⟩) zq).trans q1,(X7.out.cell (p:=⟨bk,m * 3,none⟩) zbk).trans u0,(X7.out.cell (p:=⟨bk,m * 3 + 1,none⟩) zbk).trans u1,(X7.out.cell (p:=⟨bk,m * 3 + 2,none⟩) zbk).trans u2,(X7.out.cell (p:=⟨zx + 1,0,none⟩) zt).trans t0,(X7.out.cell (p:=⟨zx + 1,1,none⟩) zt).trans t1,(X7.out.cell (p:=⟨zx + 1,2,none⟩) zt).trans t2⟩
                clear x7)
             | (refine step_its (by rfl) _ _ (by rfl) wc.heap.size _ [] (K.take m) (by rfl) OA.out bk 0 m vcap (by rw [List.length_take]; omega) (by rfl) RA.out (by rw [List.length_take]; simp; omega) XA.out.size ?_; intro v1 w1 st1 g1; have S1:=Lib.hid (SA.out.push g1 (own_low st1 hb0)); have X1:Hid (Ext wc w1):=XA.out.grown g1 (fun q e=>by have h9:=Option.some.inj e; simp at h9; omega); have HS1:Hid (w1.cell? ⟨zx,1,none⟩=some (.int .i64 x.a)∧w1.cell? ⟨bk,m * 3,none⟩=some (.int .i64 u.n)∧w1.cell? ⟨bk,m * 3 + 1,none⟩=some (.bool u.null)∧w1.cell? ⟨bk,m * 3 + 2,none⟩=some (.string u.err)∧w1.cell? ⟨zx + 1,0,none⟩=some (.int .i64 (topK K).n)∧w1.cell? ⟨zx + 1,1,none⟩=some (.bool (topK K).null)∧w1.cell? ⟨zx + 1,2,none⟩=some (.string (topK K).err)):=⟨(X1.out.cell (p:=⟨zx,1,none⟩) zq).trans q1,(X1.out.cell (p:=⟨bk,m * 3,none⟩) zbk).trans u0,(X1.out.cell (p:=⟨bk,m * 3 + 1,none⟩) zbk).trans u1,(X1.out.cell (p:=⟨bk,m * 3 + 2,none⟩) zbk).trans u2,(X1.out.cell (p:=⟨zx + 1,0,none⟩) zt).trans t0,(X1.out.cell (p:=⟨zx + 1,1,none⟩) zt).trans t1,(X1.out.cell (p:=⟨zx + 1,2,none⟩) zt).trans t2⟩)
             | (refine step_its (by rfl) _ _ (by rfl) wc.heap.size _ ([] ++ K.take m) [nv n1] (by rfl) (own_ext O7.out ((Ext.refl _).alloc (.cells (itA (nv n1)) 86))) w7.heap.size 0 1 1 (by rfl) (by rfl) (lit_its (blk_newer rfl)) (by simp; omega) (X7.out.alloc (.cells (itA (nv n1)) 86)).size ?_; intro v2 w2 st2 g2; have S2:=Lib.hid ((S7.out.ext' ((Ext.refl _).alloc (.cells (itA (nv n1)) 86))).push g2 (own_low st2 hb0)); have X2:Hid (Ext wc w2):=(X7.out.alloc (.cells (itA (nv n1)) 86)).grown g2 (fun q e=>(O7.out.lt q e).1); have HS3:Hid (w2.cell? ⟨zx,1,none⟩=some (.int .i64 x.a)∧w2.cell? ⟨bk,m * 3,none⟩=some (.int .i64 u.n)∧w2.cell? ⟨bk,m * 3 + 1,none⟩=some (.bool u.null)∧w2.cell? ⟨bk,m * 3 + 2,none⟩=some (.string u.err)∧w2.cell? ⟨zx + 1,0,none⟩=some (.int .i64 (topK K).n)∧w2.cell? ⟨zx + 1,1,none⟩=some (.bool (topK K).null)∧w2.cell? ⟨zx + 1,2,none⟩=some (.string (topK K).err)):=⟨(X2.out.cell (p:=⟨zx,1,none⟩) zq).trans q1,(X2.out.cell (p:=⟨bk,m * 3,none⟩) zbk).trans u0,(X2.out.cell (p:=⟨bk,m * 3 + 1,none⟩) zbk).trans u1,(X2.out.cell (p:=⟨bk,m * 3 + 2,none⟩) zbk).trans u2,(X2.out.cell (p:=⟨zx + 1,0,none⟩) zt).trans t0,(X2.out.cell (p:=⟨zx + 1,1,none⟩) zt).trans t1,(X2.out.cell (p:=⟨zx + 1,2,none⟩) zt).trans t2⟩))
            all_goals
             go_wp2_with fail
             go_meet
             case rel=>exact HEND.out _ _ S2.out
          ·as_aux_lemma =>
            have sn:=sane_of HVAL.out HFM.out
            obtain ⟨j,hj,hjl,hjb⟩:=kinst_call HI.out hop
            have etk:takesS x=x.b:=by simp [takesS,hop]
            have htk:=(takes_ok sn HUN.out HRE.out HXX.out).1
            have hb0:=(sn.each x (by rw [HXX.out]; exact getD_mem (by have:=HNC.out; omega))).1
            rw [etk] at htk hb0
            obtain ⟨nb,hnb⟩:∃ nb:Nat,x.b=nb:=⟨x.b.toNat,by omega⟩
            obtain ⟨m,hm⟩:∃ m:Nat,K.length=m + nb:=⟨K.length - nb,by omega⟩
            have hmn:K.length - nb=m:=by omega
            have hdl:(K.drop m).length=nb:=by rw [List.length_drop]; omega
            have hst:stepK ck x p (fun i=>PL.getD i default) K=.call x.name (K.drop m) (K.take m):=by simp [stepK,hop,hnb,hmn]
            obtain ⟨e1,t1,hr1,hrest⟩:=HR.out.inv_call hlt (by rw [← HF.out,← HXX.out]; exact hst)
            rw [hj,Int.toNat_natCast] at hr1
            have hs1:=hr1.mono
            have ht1:=hr1.quota (by omega)
            have hreach:=reach_call sn HUN.out HRE.out HXX.out hop (by omega)
            obtain ⟨rv,hrv⟩:∃ rv,rv=enV e1:=⟨_,rfl⟩
            obtain ⟨⟨kd,y9⟩,hke⟩:∃ q,q=enE e1:=⟨_,rfl⟩
            have HRUN:Hid (∀ (AG:Option Addr) (cG:Nat) (W:World),Ext w5 W → At W AG (K.drop m).length 3 (fun i j=>itC ((K.drop m).getD i default) j) → (∃ L:List Int,L.length=len∧CallsAt W vC L) → Calls Tryz.prog 73 #[.slice (some ⟨b,off,none⟩) len cap,.int .i64 j,.slice AG nb cG,.int .i64 ((d + 1:Nat):Int),.bool ck,.agg (logA 0 0 (s + 1) vC h2)] W fun e w'=>∃ (v9:Value) (h9:Int) (L:List Int),e=.returned (.tuple #[.agg (itA rv),.agg (logA kd y9 t1 v9 h9)])∧L.length=len∧CallsAt w' v9 L∧Ext W w'):=by
             intro AG cG W hxw hat hc
             obtain ⟨L,hl,hcl⟩:=hc
             have h9:=HIH.out j (K.drop m) (s + 1) W AG nb cG vC L h2 e1 t1 (by have:=HLN.out; omega) hdl.symm (by rw [hdl,← hjb,hnb]) (by omega) ((HX.out.trans S3.out.x).trans hxw) hl hcl hat hr1
             refine h9.mono ?_
             rintro e w' ⟨c,rfl,⟨v9,L9,h9,rfl,hl9,hca⟩,hx9⟩
             rw [← hrv,← hke]
             exact ⟨v9,h9,L9,rfl,hl9,hca,hx9⟩
            have HNM:Hid (∀ W:World,Ext w5 W → Calls Tryz.prog 71 #[.slice (some ⟨b,off,none⟩) len cap,.string x.name] W fun e w'=>e=.returned (.int .i64 (j:Int))∧W=w'):=fun W hxw=>by
             have h9:=knamed_any _ cap l x.name W HLN.out (HA.out.ext ((HX.out.trans S3.out.x).trans hxw)) (by omega)
             rw [hj] at h9
             exact h9
            have HREST:=Lib.hid hrest
            have HREACH:=Lib.hid hreach
            have HHOP:=Lib.hid hop
            have HHDL:=Lib.hid hdl
            have HHRV:=Lib.hid hrv
            have HHKE:=Lib.hid hke
            have HHM:=Lib.hid hm
            have HHNB:=Lib.hid hnb
            have HEND16:Hid (∀ (v9:Value) (h9:Int),RunK l ck (.at_ d k (p + 1) (fun i=>PL.getD i default) (K.take m ++ [rv])) t1 en t → ∀ v wx,SkSt w0 z len 0 0 t1 v9 h9 gp PL base v (K.take m ++ [rv]) wx → SwR l ck d k f nc np w0 z len gp base s en t v (.int .i64 ((p + 1:Nat):Int)) (.int .i64 0) wx):=fun v9 h9 hrun v wx hk=>by
             obtain ⟨_,r1,r2⟩:=hreach rv
             have e9:K.length - x.b.toNat=m:=by omega
             rw [e9] at r2
             exact SwR.go (p:=p + 1) (PL:=PL) rfl rfl HPL.out ht1 (by omega) hk HNC.out r1 r2 hrun
            have hmle:m ≤ K.length:=by omega
            obtain ⟨kl,hkl⟩:∃ kl,kl=K.length:=⟨_,rfl⟩
            have HKL:=Lib.hid hkl
            have hmI:(m:Int) ≤ (kl:Int):=by omega
            have hm0:(0:Int) ≤ (m:Int):=by omega
            have hnb64:nb ≤ 64:=by omega
            have hwm:IntKind.i64.wrap ((kl:Int) - (nb:Int))=(m:Int):=by rw [IntWalk.i64_in _ (by omega)]; omega
            rw [← hkl]
            have hwd:IntKind.i64.wrap ((d:Int) + 1)=((d + 1:Nat):Int):=by rw [IntWalk.i64_in _ (by omega)]; omega
            rw [hnb] at q2
            rw [hop] at q0 ⊢
            clear hop etk htk hb0 hst hr1 hrest hreach hjb hj hrv hke hnb hm hmn hdl hkl
            go_upto_region 73 with fail
            go_cut [22] from 295 to 303 (fun g wx=>∃ (AG:Option Addr) (cG:Nat),g=.slice AG nb cG∧At wx AG (K.drop m).length 3 (fun i j=>itC ((K.drop m).getD i default) j)∧Ext wc wx)
            case first =>
             rcases own_cases S3.out.st with ⟨hv0,hK0⟩ | ⟨bk,kc,hkv,hkc,hbk,hrk⟩
             ·have e1:vA2=none:=by injection hv0
              have e2:vcap=0:=by injection hv0
              subst e1 e2
              have hl0:K.length=0:=by rw [hK0]; rfl
              obtain rfl:m=0:=by omega
              obtain rfl:nb=0:=by have:=HHM.out; omega
              obtain rfl:kl=0:=by rw [HKL.out]; exact hl0
              have X8:Hid (Ext wc (wc.alloc (.cells #[] 86))):=(Ext.refl _).alloc _
              clear hl0
              go_wp2_with fail
              go_meet
              case rel=>exact ⟨_,_,rfl,by rw [HHDL.out]; exact At.zero,X8.out⟩
             ·obtain ⟨rfl,rfl⟩:vA2=some ⟨bk,0,none⟩∧vcap=kc:=by cases hkv; exact ⟨rfl,rfl⟩
              have HRK8:=Lib.hid (hrk.ext (X5.out.alloc (.cells #[] 86)))
              have hkI:(kl:Int) ≤ (vcap:Int):=by have:=HKL.out; omega
              have hmc:(m:Int) ≤ (vcap:Int):=by omega
              clear hkv hrk
              by_cases hcm:vcap=m
              ·have HNV:Hid (∀ i j,i < (K.drop m).length → j < 3 → (wc.alloc (.cells #[] 86)).cell? ⟨bk,0 + (i * 3 + j),none⟩=some (itC ((K.drop m).getD i default) j)):=fun i j hi hj=>by
                exfalso
                have:=HKL.out
                rw [HHDL.out] at hi
                have:=HHM.out
                omega
               go_wp2_with (first
                | (at_builtin; refine wpList_append_its rfl _ _ rfl wc.heap.size _ [] (K.drop m) rfl (own_nothing _ _ _ _ _ (by simp) (Nat.le_refl _)) bk _ _ _ (by have:=HKL.out; have:=HHM.out; rw [HHDL.out]; omega) rfl (by first | exact its_drop HRK8.out | exact HNV.out) (by rw [HHDL.out]; simp; omega) (by simp) ?_))
               intro v8 w8 st8 g8
               have st9:w8.ownsRow wc.heap.size 86 3 v8 (K.drop m).length (recCells 3 itC (K.drop m)):=by rw [List.length_drop]; exact st8
               obtain ⟨AG,cG,hvG,hatG⟩:=own_at (K:=(K.drop m)) st9
               subst hvG
               rw [HHDL.out]
               have X8:Hid (Ext wc w8):=((Ext.refl wc).alloc _).grown g8 (fun q e=>by have h9:=Option.some.inj e; simp at h9; omega)
               have HATG:=Lib.hid hatG
               clear st8 st9 g8 hatG
               go_wp2_with fail
               (try subst hcm)
               go_meet
               case rel=>exact ⟨AG,cG,rfl,HATG.out,X8.out⟩
              ·have HNV:Hid True:=trivial
               go_wp2_with (first
                | (at_builtin; refine wpList_append_its rfl _ _ rfl wc.heap.size _ [] (K.drop m) rfl (own_nothing _ _ _ _ _ (by simp) (Nat.le_refl _)) bk _ _ _ (by have:=HKL.out; have:=HHM.out; rw [HHDL.out]; omega) rfl (by first | exact its_drop HRK8.out | exact HNV.out) (by rw [HHDL.out]; simp; omega) (by simp) ?_))
               intro v8 w8 st8 g8
               have st9:w8.ownsRow wc.heap.size 86 3 v8 (K.drop m).length (recCells 3 itC (K.drop m)):=by rw [List.length_drop]; exact st8
               obtain ⟨AG,cG,hvG,hatG⟩:=own_at (K:=(K.drop m)) st9
               subst hvG
               rw [HHDL.out]
               have X8:Hid (Ext wc w8):=((Ext.refl wc).alloc _).grown g8 (fun q e=>by have h9:=Option.some.inj e; simp at h9; omega)
               have HATG:=Lib.hid hatG
               clear st8 st9 g8 hatG
               go_wp2_with fail
               (try subst hcm)
               go_meet
               case rel=>exact ⟨AG,cG,rfl,HATG.out,X8.out⟩
            case rest =>
             obtain ⟨AG,cG,rfl,hatG,xg⟩:=hcut
             rename World=>wd
             have XD:Hid (Ext w5 wd):=X5.out.trans xg
             have BXD:=Lib.hid (BX5.out.ext xg)
             have HATG:=Lib.hid hatG
             have SD:=Lib.hid (S3.out.ext' XD.out)
             clear hatG xg q0 q1 q2 q3 q4 q5 q6 q7 q8 zq
             go_upto_region 74 with fail
             go_cut [23,24] from 304 to 317 (fun p q wx=>∃ (g g':Nat) (v9:Value) (h9:Int),p=.pointer (some ⟨g,0,none⟩)∧q=.pointer (some ⟨g',0,none⟩)∧Ext wd wx∧Blk wx g 86 (itA rv)∧Blk wx g' 89 (logA kd y9 t1 v9 h9)∧∃ L:List Int,L.length=len∧CallsAt wx v9 L)
             case first =>
              as_aux_lemma =>
               have hd8:((d + 1:Nat):Int)=(d:Int) + 1:=by omega
               have HD:Hid (∀ (l':Array Bool) (b':Act) (w':World),F7 wd len rv kd y9 t1 l' b' w' → w'.cell? ⟨zx,8,none⟩=some (.string x.name)):=fun l' b' w' h=>(BXD.out.ext h.x).cell 8
               have HST:∀ (i q3:Nat) (v9:Value) (_:i ≠ 10:=by decide) (_:i ≠ 14:=by decide) (_:i ≠ 15:=by decide) (_:i ≠ 16:=by decide) (_:i ≠ 17:=by decide) (_:q3 ≠ 315:=by decide) (_:q3 ≠ 23:=by decide) (_:q3 ≠ 24:=by decide) (l':Array Bool) (b':Act) (w':World),F7 wd len rv kd y9 t1 (l'.setIfInBounds i true) (b'.put (some q3) v9) w' ↔ F7 wd len rv kd y9 t1 l' b' w':=fun i q3 v9 h1 h2 h3 h4 h5 h6 h7 h8 l' b' w'=>F7.same h1 h2 h3 h4 h5 h6 h7 h8 v9 l' b' w'
               have HCI:Hid (∀ (l':Array Bool) (b':Act) (w':World),F7 wd len rv kd y9 t1 l' b' w' → Calls Tryz.prog 71 #[.slice (some ⟨b,off,none⟩) len cap,.string x.name] w' fun e w''=>e=.returned (.int .i64 j)∧F7 wd len rv kd y9 t1 l' b' w''):=fun l' b' w' h=>(HNM.out w' (XD.out.trans h.x)).mono fun e w'' z=>⟨z.1,by rw [← z.2]; exact h⟩
               have HIC:Hid (∀ (l':Array Bool) (b':Act) (w':World),355=b'.tmps.size → l'.getD 17 false=false → F7 wd len rv kd y9 t1 l' b' w' → Calls Tryz.prog 73 #[.slice (some ⟨b,off,none⟩) len cap,.int .i64 j,.slice AG nb cG,.int .i64 ((d:Int) + 1),.bool ck,.agg (logA 0 0 (s + 1) vC h2).toList.toArray] w' fun e w''=>∃ v,e=.returned v∧ResV rv kd y9 t1 v∧F7 wd len rv kd y9 t1 (l'.setIfInBounds 10 true) (b'.put (some 315) v) w''):=fun l' b' w' hsz h17 h=>by
                have h9:=HRUN.out AG cG w' (XD.out.trans h.x) (At.ext HATG.out h.x) (SD.out.ext' h.x).cl
                rw [hd8] at h9
                refine h9.mono ?_
                rintro e w'' ⟨v9,h9,L,rfl,hl9,hca,hx9⟩
                exact ⟨_,rfl,⟨v9,h9,rfl,hca.one⟩,h.call hx9 hl9 hca h17 (by decide) hsz⟩
               have hwd2:IntKind.i64.wrap ((d:Int) + 1)=(d:Int) + 1:=by rw [hwd,hd8]
               clear hwd hd8
               refine flow2_begin (F7 wd len rv kd y9 t1) #[false,false,false,false,false,false,false,false,false,false,false,false,false,false,false,false,false,false] rfl (by kernel_rfl) (fun _ _ _ _ _ h=>h) ((F7.start (Ext.refl wd).drew _)) (fun HQ=>?_)
               (refine flow2_take (i:=0) (t:=305) (oi:=⟨some 305,_,_,_,_,_⟩) (v:=?_) rfl rfl (by kernel_rfl) (by kernel_rfl) (by kernel_rfl) HQ (HST 0 305 _) (Or.inl ⟨by rfl,fun l b' w' hF=>?_⟩) ?_; rotate_left; (focus (go_simp; try with_reducible rfl)); try simp only [putL,List.set])
               (refine flow2_take (i:=1) (t:=306) (oi:=⟨some 306,_,_,_,_,_⟩) (v:=?_) rfl rfl (by kernel_rfl) (by kernel_rfl) (by kernel_rfl) HQ (HST 1 306 _) (Or.inl ⟨by rfl,fun l b' w' hF=>?_⟩) ?_; rotate_left; (focus (go_simp; try with_reducible rfl)); try simp only [putL,List.set])
               (refine flow2_take (i:=2) (t:=307) (oi:=⟨some 307,_,_,_,_,_⟩) (v:=?_) rfl rfl (by kernel_rfl) (by kernel_rfl) (by kernel_rfl) HQ (HST 2 307 _) (Or.inl ⟨by rfl,fun l b' w' hF=>?_⟩) ?_; rotate_left; (focus (go_simp; try with_reducible rfl)); try simp only [putL,List.set])
               (refine flow2_take (i:=3) (t:=308) (oi:=⟨some 308,_,_,_,_,_⟩) (v:=?_) rfl rfl (by kernel_rfl) (by kernel_rfl) (by kernel_rfl) HQ (HST 3 308 _) (Or.inl ⟨by rfl,fun l b' w' hF=>?_⟩) ?_; rotate_left; (focus (have hq:=HD.out _ _ _ hF; go_simp; try with_reducible rfl)); try simp only [putL,List.set])
               (refine flow2_take (i:=4) (t:=309) (oi:=⟨some 309,_,_,_,_,_⟩) rfl rfl (by kernel_rfl) (by kernel_rfl) (by kernel_rfl) HQ (HST 4 309 _) (Or.inr (Or.inl ⟨by rfl,_,_,fun l b' w' hF=>?_,(HCI.out)⟩)) ?_; (focus (have hq:=HD.out _ _ _ hF; go_simp; try simp only [enters_named _ _])); try simp only [putL,List.set])
               (refine flow2_take (i:=5) (t:=310) (oi:=⟨some 310,_,_,_,_,_⟩) (v:=?_) rfl rfl (by kernel_rfl) (by kernel_rfl) (by kernel_rfl) HQ (HST 5 310 _) (Or.inl ⟨by rfl,fun l b' w' hF=>?_⟩) ?_; rotate_left; (focus (go_simp; try with_reducible rfl)); try simp only [putL,List.set])
               (refine flow2_take (i:=6) (t:=311) (oi:=⟨some 311,_,_,_,_,_⟩) (v:=?_) rfl rfl (by kernel_rfl) (by kernel_rfl) (by kernel_rfl) HQ (HST 6 311 _) (Or.inl ⟨by rfl,fun l b' w' hF=>?_⟩) ?_; rotate_left; (focus (go_simp; try with_reducible rfl)); try simp only [putL,List.set])
               (refine flow2_take (i:=7) (t:=312) (oi:=⟨some 312,_,_,_,_,_⟩) (v:=?_) rfl rfl (by kernel_rfl) (by kernel_rfl) (by kernel_rfl) HQ (HST 7 312 _) (Or.inl ⟨by rfl,fun l b' w' hF=>?_⟩) ?_; rotate_left; (focus (go_simp; try with_reducible rfl)); try simp only [putL,List.set])
               (refine flow2_take (i:=8) (t:=313) (oi:=⟨some 313,_,_,_,_,_⟩) (v:=?_) rfl rfl (by kernel_rfl) (by kernel_rfl) (by kernel_rfl) HQ (HST 8 313 _) (Or.inl ⟨by rfl,fun l b' w' hF=>?_⟩) ?_; rotate_left; (focus (go_simp; try with_reducible rfl)); try simp only [putL,List.set])
               refine flow2_take (i:=9) (t:=314) (oi:=⟨some 314,_,_,_,_,_⟩) rfl rfl (by kernel_rfl) (by kernel_rfl) (by kernel_rfl) HQ (HST 9 314 _) (doesF_load (by rfl) 89 _ rfl z 0 rfl (logA 0 0 (s + 1) vC h2).toList _ (fun l' b' w' hF=>(SD.out.ext' hF.x).bl.all) Tryz.underlying89 rfl HZL.out) ?_
               try simp only [Act.put,List.setIfInBounds_toArray,List.set_cons_zero,List.set_cons_succ]
               refine flow2_three (i:=10) (k:=14) (m:=15) (by kernel_rfl) ?o1 ?o2 ?o3
               case o1 =>
                (refine step_callP (i:=10) (t:=315) (oi:=⟨some 315,_,_,_,_,_⟩) rfl rfl (by rfl) _ _ (ResV rv kd y9 t1) (fun w' hF=>?_) (fun w' hF=>HIC.out _ _ _ rfl rfl hF) ?_; (focus (go_simp; try simp only [enters_krun _ _])); rintro _ ⟨v9,h9,rfl,hv9⟩; try simp only [Act.put,List.setIfInBounds_toArray,List.set_cons_zero,List.set_cons_succ])
                (refine flow2_take (i:=11) (t:=304) (oi:=⟨some 304,_,_,_,_,_⟩) (v:=?_) rfl rfl (by kernel_rfl) (by kernel_rfl) (by kernel_rfl) HQ (HST 11 304 _) (Or.inl ⟨by rfl,fun l b' w' hF=>?_⟩) ?_; rotate_left; (focus (go_simp; try with_reducible rfl)); try simp only [putL,List.set])
                (refine flow2_take (i:=12) (t:=316) (oi:=⟨some 316,_,_,_,_,_⟩) (v:=?_) rfl rfl (by kernel_rfl) (by kernel_rfl) (by kernel_rfl) HQ (HST 12 316 _) (Or.inl ⟨by rfl,fun l b' w' hF=>?_⟩) ?_; rotate_left; (focus (go_simp; try with_reducible rfl)); try simp only [putL,List.set])
                (refine flow2_take (i:=13) (t:=317) (oi:=⟨some 317,_,_,_,_,_⟩) (v:=?_) rfl rfl (by kernel_rfl) (by kernel_rfl) (by kernel_rfl) HQ (HST 13 317 _) (Or.inl ⟨by rfl,fun l b' w' hF=>?_⟩) ?_; rotate_left; (focus (go_simp; try with_reducible rfl)); try simp only [putL,List.set])
                refine flow2_two (i:=14) (k:=15) (by kernel_rfl) ?w1 ?w2
                case w1 =>
                 (refine step_alloc (i:=14) (t:=23) (oi:=⟨some 23,_,_,_,_,_⟩) (ob:=.cells zI 86) rfl rfl (by rfl) (fun w' hF=>?_) (fun w' hF=>hF.box1 rfl (show 23 < 355 from by decide) rfl) (fun g9=>?_); (focus (go_simp; try rfl)); try simp only [Act.put,List.setIfInBounds_toArray,List.set_cons_zero,List.set_cons_succ])
                 refine flow2_one (i:=15) (by kernel_rfl) ?_
                 (refine step_alloc (i:=15) (t:=24) (oi:=⟨some 24,_,_,_,_,_⟩) (ob:=.cells zL 89) rfl rfl (by rfl) (fun w' hF=>?_) (fun w' hF=>hF.box2 rfl (show 24 < 355 from by decide) rfl) (fun g8=>?_); (focus (go_simp; try rfl)); try simp only [Act.put,List.setIfInBounds_toArray,List.set_cons_zero,List.set_cons_succ])
                 refine flow2_one (i:=16) (by kernel_rfl) (step_put1 (oi:=⟨none,_,_,_,_,_⟩) rfl rfl (by rfl) 86 _ _ rfl g9 0 (itA rv) rfl rfl (fun w' hF=>hF.there1 rfl rfl) HZI.out (itA_all _) (fun w' hF=>hF.put1 rfl rfl) ?_)
                 refine flow2_one (i:=17) (by kernel_rfl) (step_put1 (oi:=⟨none,_,_,_,_,_⟩) rfl rfl (by rfl) 89 _ _ rfl g8 0 (logA kd y9 t1 v9 h9) rfl rfl (fun w' hF=>hF.there2 rfl rfl) HZL.out (logA_all _ _ _ _ hv9) (fun w' hF=>hF.put2 rfl rfl rfl) ?_)
                 refine flow2_done (by kernel_rfl) ?_
                 intro w9 hF9
                 obtain ⟨x9,hg9,hg8,b9,b8,hc9⟩:=hF9.out rfl rfl rfl rfl rfl rfl rfl rfl
                 clear HD HST HCI HIC HQ hF9
                 go_wp2_with fail
                 go_meet
                 case rel=>exact ⟨g9,g8,v9,h9,rfl,rfl,x9,b9,b8,hc9⟩
                case w2 =>
                 (refine step_alloc (i:=15) (t:=24) (oi:=⟨some 24,_,_,_,_,_⟩) (ob:=.cells zL 89) rfl rfl (by rfl) (fun w' hF=>?_) (fun w' hF=>hF.box2 rfl (show 24 < 355 from by decide) rfl) (fun g8=>?_); (focus (go_simp; try rfl)); try simp only [Act.put,List.setIfInBounds_toArray,List.set_cons_zero,List.set_cons_succ])
                 refine flow2_one (i:=14) (by kernel_rfl) ?_
                 (refine step_alloc (i:=14) (t:=23) (oi:=⟨some 23,_,_,_,_,_⟩) (ob:=.cells zI 86) rfl rfl (by rfl) (fun w' hF=>?_) (fun w' hF=>hF.box1 rfl (show 23 < 355 from by decide) rfl) (fun g9=>?_); (focus (go_simp; try rfl)); try simp only [Act.put,List.setIfInBounds_toArray,List.set_cons_zero,List.set_cons_succ])
                 refine flow2_one (i:=16) (by kernel_rfl) (step_put1 (oi:=⟨none,_,_,_,_,_⟩) rfl rfl (by rfl) 86 _ _ rfl g9 0 (itA rv) rfl rfl (fun w' hF=>hF.there1 rfl rfl) HZI.out (itA_all _) (fun w' hF=>hF.put1 rfl rfl) ?_)
                 refine flow2_one (i:=17) (by kernel_rfl) (step_put1 (oi:=⟨none,_,_,_,_,_⟩) rfl rfl (by rfl) 89 _ _ rfl g8 0 (logA kd y9 t1 v9 h9) rfl rfl (fun w' hF=>hF.there2 rfl rfl) HZL.out (logA_all _ _ _ _ hv9) (fun w' hF=>hF.put2 rfl rfl rfl) ?_)
                 refine flow2_done (by kernel_rfl) ?_
                 intro w9 hF9
                 obtain ⟨x9,hg9,hg8,b9,b8,hc9⟩:=hF9.out rfl rfl rfl rfl rfl rfl rfl rfl
                 clear HD HST HCI HIC HQ hF9
                 go_wp2_with fail
                 go_meet
                 case rel=>exact ⟨g9,g8,v9,h9,rfl,rfl,x9,b9,b8,hc9⟩
               case o2 =>
                (refine step_alloc (i:=14) (t:=23) (oi:=⟨some 23,_,_,_,_,_⟩) (ob:=.cells zI 86) rfl rfl (by rfl) (fun w' hF=>?_) (fun w' hF=>hF.box1 rfl (show 23 < 355 from by decide) rfl) (fun g9=>?_); (focus (go_simp; try rfl)); try simp only [Act.put,List.setIfInBounds_toArray,List.set_cons_zero,List.set_cons_succ])
                refine flow2_two (i:=10) (k:=15) (by kernel_rfl) ?w1 ?w2
                case w1 =>
                 (refine step_callP (i:=10) (t:=315) (oi:=⟨some 315,_,_,_,_,_⟩) rfl rfl (by rfl) _ _ (ResV rv kd y9 t1) (fun w' hF=>?_) (fun w' hF=>HIC.out _ _ _ rfl rfl hF) ?_; (focus (go_simp; try simp only [enters_krun _ _])); rintro _ ⟨v9,h9,rfl,hv9⟩; try simp only [Act.put,List.setIfInBounds_toArray,List.set_cons_zero,List.set_cons_succ])
                 (refine flow2_take (i:=11) (t:=304) (oi:=⟨some 304,_,_,_,_,_⟩) (v:=?_) rfl rfl (by kernel_rfl) (by kernel_rfl) (by kernel_rfl) HQ (HST 11 304 _) (Or.inl ⟨by rfl,fun l b' w' hF=>?_⟩) ?_; rotate_left; (focus (go_simp; try with_reducible rfl)); try simp only [putL,List.set])
                 (refine flow2_take (i:=12) (t:=316) (oi:=⟨some 316,_,_,_,_,_⟩) (v:=?_) rfl rfl (by kernel_rfl) (by kernel_rfl) (by kernel_rfl) HQ (HST 12 316 _) (Or.inl ⟨by rfl,fun l b' w' hF=>?_⟩) ?_; rotate_left; (focus (go_simp; try with_reducible rfl)); try simp only [putL,List.set])
                 (refine flow2_take (i:=13) (t:=317) (oi:=⟨some 317,_,_,_,_,_⟩) (v:=?_) rfl rfl (by kernel_rfl) (by kernel_rfl) (by kernel_rfl) HQ (HST 13 317 _) (Or.inl ⟨by rfl,fun l b' w' hF=>?_⟩) ?_; rotate_left; (focus (go_simp; try with_reducible rfl)); try simp only [putL,List.set])
                 refine flow2_one (i:=15) (by kernel_rfl) ?_
                 (refine step_alloc (i:=15) (t:=24) (oi:=⟨some 24,_,_,_,_,_⟩) (ob:=.cells zL 89) rfl rfl (by rfl) (fun w' hF=>?_) (fun w' hF=>hF.box2 rfl (show 24 < 355 from by decide) rfl) (fun g8=>?_); (focus (go_simp; try rfl)); try simp only [Act.put,List.setIfInBounds_toArray,List.set_cons_zero,List.set_cons_succ])
                 refine flow2_one (i:=16) (by kernel_rfl) (step_put1 (oi:=⟨none,_,_,_,_,_⟩) rfl rfl (by rfl) 86 _ _ rfl g9 0 (itA rv) rfl rfl (fun w' hF=>hF.there1 rfl rfl) HZI.out (itA_all _) (fun w' hF=>hF.put1 rfl rfl) ?_)
                 refine flow2_one (i:=17) (by kernel_rfl) (step_put1 (oi:=⟨none,_,_,_,_,_⟩) rfl rfl (by rfl) 89 _ _ rfl g8 0 (logA kd y9 t1 v9 h9) rfl rfl (fun w' hF=>hF.there2 rfl rfl) HZL.out (logA_all _ _ _ _ hv9) (fun w' hF=>hF.put2 rfl rfl rfl) ?_)
                 refine flow2_done (by kernel_rfl) ?_
                 intro w9 hF9
                 obtain ⟨x9,hg9,hg8,b9,b8,hc9⟩:=hF9.out rfl rfl rfl rfl rfl rfl rfl rfl
                 clear HD HST HCI HIC HQ hF9
                 go_wp2_with fail
                 go_meet
                 case rel=>exact ⟨g9,g8,v9,h9,rfl,rfl,x9,b9,b8,hc9⟩
                case w2 =>
                 (refine step_alloc (i:=15) (t:=24) (oi:=⟨some 24,_,_,_,_,_⟩) (ob:=.cells zL 89) rfl rfl (by rfl) (fun w' hF=>?_) (fun w' hF=>hF.box2 rfl (show 24 < 355 from by decide) rfl) (fun g8=>?_); (focus (go_simp; try rfl)); try simp only [Act.put,List.setIfInBounds_toArray,List.set_cons_zero,List.set_cons_succ])
                 refine flow2_one (i:=10) (by kernel_rfl) ?_
                 (refine step_callP (i:=10) (t:=315) (oi:=⟨some 315,_,_,_,_,_⟩) rfl rfl (by rfl) _ _ (ResV rv kd y9 t1) (fun w' hF=>?_) (fun w' hF=>HIC.out _ _ _ rfl rfl hF) ?_; (focus (go_simp; try simp only [enters_krun _ _])); rintro _ ⟨v9,h9,rfl,hv9⟩; try simp only [Act.put,List.setIfInBounds_toArray,List.set_cons_zero,List.set_cons_succ])
                 (refine flow2_take (i:=11) (t:=304) (oi:=⟨some 304,_,_,_,_,_⟩) (v:=?_) rfl rfl (by kernel_rfl) (by kernel_rfl) (by kernel_rfl) HQ (HST 11 304 _) (Or.inl ⟨by rfl,fun l b' w' hF=>?_⟩) ?_; rotate_left; (focus (go_simp; try with_reducible rfl)); try simp only [putL,List.set])
                 (refine flow2_take (i:=12) (t:=316) (oi:=⟨some 316,_,_,_,_,_⟩) (v:=?_) rfl rfl (by kernel_rfl) (by kernel_rfl) (by kernel_rfl) HQ (HST 12 316 _) (Or.inl ⟨by rfl,fun l b' w' hF=>?_⟩) ?_; rotate_left; (focus (go_simp; try with_reducible rfl)); try simp only [putL,List.set])
                 (refine flow2_take (i:=13) (t:=317) (oi:=⟨some 317,_,_,_,_,_⟩) (v:=?_) rfl rfl (by kernel_rfl) (by kernel_rfl) (by kernel_rfl) HQ (HST 13 317 _) (Or.inl ⟨by rfl,fun l b' w' hF=>?_⟩) ?_; rotate_left; (focus (go_simp; try with_reducible rfl)); try simp only [putL,List.set])
                 refine flow2_one (i:=16) (by kernel_rfl) (step_put1 (oi:=⟨none,_,_,_,_,_⟩) rfl rfl (by rfl) 86 _ _ rfl g9 0 (itA rv) rfl rfl (fun w' hF=>hF.there1 rfl rfl) HZI.out (itA_all _) (fun w' hF=>hF.put1 rfl rfl) ?_)
                 refine flow2_one (i:=17) (by kernel_rfl) (step_put1 (oi:=⟨none,_,_,_,_,_⟩) rfl rfl (by rfl) 89 _ _ rfl g8 0 (logA kd y9 t1 v9 h9) rfl rfl (fun w' hF=>hF.there2 rfl rfl) HZL.out (logA_all _ _ _ _ hv9) (fun w' hF=>hF.put2 rfl rfl rfl) ?_)
                 refine flow2_done (by kernel_rfl) ?_
                 intro w9 hF9
                 obtain ⟨x9,hg9,hg8,b9,b8,hc9⟩:=hF9.out rfl rfl rfl rfl rfl rfl rfl rfl
                 clear HD HST HCI HIC HQ hF9
                 go_wp2_with fail
                 go_meet
                 case rel=>exact ⟨g9,g8,v9,h9,rfl,rfl,x9,b9,b8,hc9⟩
               case o3 =>
                (refine step_alloc (i:=15) (t:=24) (oi:=⟨some 24,_,_,_,_,_⟩) (ob:=.cells zL 89) rfl rfl (by rfl) (fun w' hF=>?_) (fun w' hF=>hF.box2 rfl (show 24 < 355 from by decide) rfl) (fun g8=>?_); (focus (go_simp; try rfl)); try simp only [Act.put,List.setIfInBounds_toArray,List.set_cons_zero,List.set_cons_succ])
                refine flow2_two (i:=10) (k:=14) (by kernel_rfl) ?w1 ?w2
                case w1 =>
                 (refine step_callP (i:=10) (t:=315) (oi:=⟨some 315,_,_,_,_,_⟩) rfl rfl (by rfl) _ _ (ResV rv kd y9 t1) (fun w' hF=>?_) (fun w' hF=>HIC.out _ _ _ rfl rfl hF) ?_; (focus (go_simp; try simp only [enters_krun _ _])); rintro _ ⟨v9,h9,rfl,hv9⟩; try simp only [Act.put,List.setIfInBounds_toArray,List.set_cons_zero,List.set_cons_succ])
                 (refine flow2_take (i:=11) (t:=304) (oi:=⟨some 304,_,_,_,_,_⟩) (v:=?_) rfl rfl (by kernel_rfl) (by kernel_rfl) (by kernel_rfl) HQ (HST 11 304 _) (Or.inl ⟨by rfl,fun l b' w' hF=>?_⟩) ?_; rotate_left; (focus (go_simp; try with_reducible rfl)); try simp only [putL,List.set])
                 (refine flow2_take (i:=12) (t:=316) (oi:=⟨some 316,_,_,_,_,_⟩) (v:=?_) rfl rfl (by kernel_rfl) (by kernel_rfl) (by kernel_rfl) HQ (HST 12 316 _) (Or.inl ⟨by rfl,fun l b' w' hF=>?_⟩) ?_; rotate_left; (focus (go_simp; try with_reducible rfl)); try simp only [putL,List.set])
                 (refine flow2_take (i:=13) (t:=317) (oi:=⟨some 317,_,_,_,_,_⟩) (v:=?_) rfl rfl (by kernel_rfl) (by kernel_rfl) (by kernel_rfl) HQ (HST 13 317 _) (Or.inl ⟨by rfl,fun l b' w' hF=>?_⟩) ?_; rotate_left; (focus (go_simp; try with_reducible rfl)); try simp only [putL,List.set])
                 refine flow2_one (i:=14) (by kernel_rfl) ?_
                 (refine step_alloc (i:=14) (t:=23) (oi:=⟨some 23,_,_,_,_,_⟩) (ob:=.cells zI 86) rfl rfl (by rfl) (fun w' hF=>?_) (fun w' hF=>hF.box1 rfl (show 23 < 355 from by decide) rfl) (fun g9=>?_); (focus (go_simp; try rfl)); try simp only [Act.put,List.setIfInBounds_toArray,List.set_cons_zero,List.set_cons_succ])
                 refine flow2_one (i:=16) (by kernel_rfl) (step_put1 (oi:=⟨none,_,_,_,_,_⟩) rfl rfl (by rfl) 86 _ _ rfl g9 0 (itA rv) rfl rfl (fun w' hF=>hF.there1 rfl rfl) HZI.out (itA_all _) (fun w' hF=>hF.put1 rfl rfl) ?_)
                 refine flow2_one (i:=17) (by kernel_rfl) (step_put1 (oi:=⟨none,_,_,_,_,_⟩) rfl rfl (by rfl) 89 _ _ rfl g8 0 (logA kd y9 t1 v9 h9) rfl rfl (fun w' hF=>hF.there2 rfl rfl) HZL.out (logA_all _ _ _ _ hv9) (fun w' hF=>hF.put2 rfl rfl rfl) ?_)
                 refine flow2_done (by kernel_rfl) ?_
                 intro w9 hF9
                 obtain ⟨x9,hg9,hg8,b9,b8,hc9⟩:=hF9.out rfl rfl rfl rfl rfl rfl rfl rfl
                 clear HD HST HCI HIC HQ hF9
                 go_wp2_with fail
                 go_meet
                 case rel=>exact ⟨g9,g8,v9,h9,rfl,rfl,x9,b9,b8,hc9⟩
                case w2 =>
                 (refine step_alloc (i:=14) (t:=23) (oi:=⟨some 23,_,_,_,_,_⟩) (ob:=.cells zI 86) rfl rfl (by rfl) (fun w' hF=>?_) (fun w' hF=>hF.box1 rfl (show 23 < 355 from by decide) rfl) (fun g9=>?_); (focus (go_simp; try rfl)); try simp only [Act.put,List.setIfInBounds_toArray,List.set_cons_zero,List.set_cons_succ])
                 refine flow2_one (i:=10) (by kernel_rfl) ?_
                 (refine step_callP (i:=10) (t:=315) (oi:=⟨some 315,_,_,_,_,_⟩) rfl rfl (by rfl) _ _ (ResV rv kd y9 t1) (fun w' hF=>?_) (fun w' hF=>HIC.out _ _ _ rfl rfl hF) ?_; (focus (go_simp; try simp only [enters_krun _ _])); rintro _ ⟨v9,h9,rfl,hv9⟩; try simp only [Act.put,List.setIfInBounds_toArray,List.set_cons_zero,List.set_cons_succ])
                 (refine flow2_take (i:=11) (t:=304) (oi:=⟨some 304,_,_,_,_,_⟩) (v:=?_) rfl rfl (by kernel_rfl) (by kernel_rfl) (by kernel_rfl) HQ (HST 11 304 _) (Or.inl ⟨by rfl,fun l b' w' hF=>?_⟩) ?_; rotate_left; (focus (go_simp; try with_reducible rfl)); try simp only [putL,List.set])
                 (refine flow2_take (i:=12) (t:=316) (oi:=⟨some 316,_,_,_,_,_⟩) (v:=?_) rfl rfl (by kernel_rfl) (by kernel_rfl) (by kernel_rfl) HQ (HST 12 316 _) (Or.inl ⟨by rfl,fun l b' w' hF=>?_⟩) ?_; rotate_left; (focus (go_simp; try with_reducible rfl)); try simp only [putL,List.set])
                 (refine flow2_take (i:=13) (t:=317) (oi:=⟨some 317,_,_,_,_,_⟩) (v:=?_) rfl rfl (by kernel_rfl) (by kernel_rfl) (by kernel_rfl) HQ (HST 13 317 _) (Or.inl ⟨by rfl,fun l b' w' hF=>?_⟩) ?_; rotate_left; (focus (go_simp; try with_reducible rfl)); try simp only [putL,List.set])
                 refine flow2_one (i:=16) (by kernel_rfl) (step_put1 (oi:=⟨none,_,_,_,_,_⟩) rfl rfl (by rfl) 86 _ _ rfl g9 0 (itA rv) rfl rfl (fun w' hF=>hF.there1 rfl rfl) HZI.out (itA_all _) (fun w' hF=>hF.put1 rfl rfl) ?_)
                 refine flow2_one (i:=17) (by kernel_rfl) (step_put1 (oi:=⟨none,_,_,_,_,_⟩) rfl rfl (by rfl) 89 _ _ rfl g8 0 (logA kd y9 t1 v9 h9) rfl rfl (fun w' hF=>hF.there2 rfl rfl) HZL.out (logA_all _ _ _ _ hv9) (fun w' hF=>hF.put2 rfl rfl rfl) ?_)
                 refine flow2_done (by kernel_rfl) ?_
                 intro w9 hF9
                 obtain ⟨x9,hg9,hg8,b9,b8,hc9⟩:=hF9.out rfl rfl rfl rfl rfl rfl rfl rfl
                 clear HD HST HCI HIC HQ hF9
                 go_wp2_with fail
                 go_meet
                 case rel=>exact ⟨g9,g8,v9,h9,rfl,rfl,x9,b9,b8,hc9⟩
             case rest =>
              obtain ⟨g23,g24,v9,h9,rfl,rfl,x9,b9,b8,hc9⟩:=hcut
              rename World=>we
              have XE:Hid (Ext w5 we):=XD.out.trans x9
              have BG:=Lib.hid b9
              have BL:=Lib.hid b8
              have HCC:=Lib.hid hc9
              have HV9:Hid (v9.oneCell'=true):=by obtain ⟨_,_,hc⟩:=hc9; exact hc.one
              have BXE:=Lib.hid (BXD.out.ext x9)
              have SE:=Lib.hid (SD.out.ext' x9)
              have HLR:Hid (we.rangeAt g24 0 (logA kd y9 t1 v9 h9).toList):=b8.all
              clear x9 b9 b8 hc9
              go_upto_region 76 with (first
               | ((with_reducible show wpList _ _ _ (Oper.mk (some 318) (.load 89 (.tmp 24)) _ _ _ _ :: _) _ _); refine wpList_load_mid rfl 89 _ rfl g24 0 rfl (logA kd y9 t1 v9 h9).toList _ HLR.out Tryz.underlying89 rfl HZL.out ?_)
               | ((with_reducible show wpList _ _ _ (Oper.mk none (.store 89 (.tmp 11) _) _ _ _ _ :: _) _ _); refine wpList_store_row rfl 89 _ _ rfl z rfl 89 (logA 0 0 (s + 1) vC h2) (logA kd y9 t1 v9 h9) SE.out.bl rfl rfl (logA_ones _ _ _ _ HV9.out) HZL.out ?_))
              have S8:Hid (SkSt w0 z len kd y9 t1 v9 h9 gp PL base (.slice vA2 K.length vcap) K (we.setRow z (logA kd y9 t1 v9 h9))):=SE.out.after HCC.out
              have X8:Hid (Ext w0 (we.setRow z (logA kd y9 t1 v9 h9))):=S8.out.x
              have BG8:Hid (Blk (we.setRow z (logA kd y9 t1 v9 h9)) g23 86 (itA rv)):=row_far SE.out BG.out (by decide) _
              have BX8:Hid (Blk (we.setRow z (logA kd y9 t1 v9 h9)) zx 63 (cdA x)):=row_far SE.out BXE.out (by decide) _
              generalize we.setRow z (logA kd y9 t1 v9 h9)=w8 at S8 X8 BG8 BX8 ⊢
              obtain ⟨zq,_,_,q2,_,_,_,_,_,_⟩:=cd_facts BX8.out
              rw [HHNB.out] at q2
              obtain ⟨z0,i0,i1,i2,i3,i4,i5,i6,fz⟩:=log_facts S8.out.bl
              clear fz SE BG BXE BL HLR HCC
              cases e1 with
              | long =>
               rcases HREST.out with ⟨_,rfl,rfl⟩ | ⟨v8,hv8,_⟩
               case inr=>cases hv8
               obtain ⟨rfl,rfl⟩:kd=2∧y9=0:=by have h9:=HHKE.out; cases h9; exact ⟨rfl,rfl⟩
               clear HEND16 HHRV HHKE HREACH
               go_wp2_with fail
               clear i0 i1 i2 i3 i4 i5 i6
               refine flow_begin (EndSt w0 z len 2 0 t v9 h9 (itA default)) #[false,false,false,false] rfl (by kernel_rfl) (fun _ _ _ _ _ h=>h) (S8.out.endS) (fun HQ=>?_)
               have HST:∀ (i:Nat) (_:i ≠ 2:=by decide) (_:i ≠ 3:=by decide) (l:Array Bool) (w':World),EndSt w0 z len 2 0 t v9 h9 (itA default) (l.setIfInBounds i true) w' ↔ EndSt w0 z len 2 0 t v9 h9 (itA default) l w':=fun i h2 h3 l w'=>EndSt.other h2 h3
               (refine tp 0 322 rfl HQ (HST 0) ?_; try simp only [putL,List.set])
               refine flow_take (i:=1) (t:=323) (oi:=⟨some 323,_,_,_,_,_⟩) rfl rfl (by kernel_rfl) (by kernel_rfl) (by kernel_rfl) HQ (HST 1) (does_load (by rfl) 89 _ rfl z 0 rfl (logA 2 0 t v9 h9).toList _ (fun l w' hF=>hF.bl.all) Tryz.underlying89 rfl HZL.out) ?_
               try simp only [putL,List.set]
               refine flow_put (i:=2) (oi:=⟨none,_,_,_,_,none⟩) rfl rfl (stores_mid (i:=2) rfl 86 _ _ rfl (z + 1) 0 ((itA default)) rfl rfl (fun l w' h=>h.there1 rfl) HZI.out (itA_all _) (fun l w' h=>h.put1 rfl)) (by kernel_rfl) ?_
               try simp only [Array.set!,Array.setIfInBounds,putL,List.set]
               refine flow_store1 (i:=3) (oi:=⟨none,_,_,_,_,none⟩) rfl rfl (stores_mid (i:=3) rfl 89 _ _ rfl (z + 2) 0 (logA 2 0 t v9 h9) rfl rfl (fun l w' h=>h.there2) HZL.out (logA_all _ _ _ _ HV9.out) (fun l w' h=>h.put2)) (by kernel_rfl) (by kernel_rfl) (fun w9 hE=>?_)
               clear HST HQ
               go_wp2_with fail
               exact bodyPost_ret (results_row_row rfl _ _ (z + 1) 86 ((itA default)) (0,0) _ rfl (hE.res.1) Tryz.underlying86 rfl HZI.out (z + 2) 89 (logA 2 0 t v9 h9) (0,0) _ rfl (hE.res.2) Tryz.underlying89 rfl HZL.out) rfl ⟨_,rfl,hE.log,hE.x⟩
              | stop y =>
               rcases HREST.out with ⟨_,rfl,rfl⟩ | ⟨v8,hv8,_⟩
               case inr=>cases hv8
               obtain ⟨rfl,rfl⟩:kd=1∧y9=y:=by have h9:=HHKE.out; cases h9; exact ⟨rfl,rfl⟩
               clear HEND16 HHRV HHKE HREACH
               go_wp2_with fail
               clear i0 i1 i2 i3 i4 i5 i6
               refine flow_begin (EndSt w0 z len 1 y9 t v9 h9 (itA default)) #[false,false,false,false] rfl (by kernel_rfl) (fun _ _ _ _ _ h=>h) (S8.out.endS) (fun HQ=>?_)
               have HST:∀ (i:Nat) (_:i ≠ 2:=by decide) (_:i ≠ 3:=by decide) (l:Array Bool) (w':World),EndSt w0 z len 1 y9 t v9 h9 (itA default) (l.setIfInBounds i true) w' ↔ EndSt w0 z len 1 y9 t v9 h9 (itA default) l w':=fun i h2 h3 l w'=>EndSt.other h2 h3
               (refine tp 0 322 rfl HQ (HST 0) ?_; try simp only [putL,List.set])
               refine flow_take (i:=1) (t:=323) (oi:=⟨some 323,_,_,_,_,_⟩) rfl rfl (by kernel_rfl) (by kernel_rfl) (by kernel_rfl) HQ (HST 1) (does_load (by rfl) 89 _ rfl z 0 rfl (logA 1 y9 t v9 h9).toList _ (fun l w' hF=>hF.bl.all) Tryz.underlying89 rfl HZL.out) ?_
               try simp only [putL,List.set]
               refine flow_put (i:=2) (oi:=⟨none,_,_,_,_,none⟩) rfl rfl (stores_mid (i:=2) rfl 86 _ _ rfl (z + 1) 0 ((itA default)) rfl rfl (fun l w' h=>h.there1 rfl) HZI.out (itA_all _) (fun l w' h=>h.put1 rfl)) (by kernel_rfl) ?_
               try simp only [Array.set!,Array.setIfInBounds,putL,List.set]
               refine flow_store1 (i:=3) (oi:=⟨none,_,_,_,_,none⟩) rfl rfl (stores_mid (i:=3) rfl 89 _ _ rfl (z + 2) 0 (logA 1 y9 t v9 h9) rfl rfl (fun l w' h=>h.there2) HZL.out (logA_all _ _ _ _ HV9.out) (fun l w' h=>h.put2)) (by kernel_rfl) (by kernel_rfl) (fun w9 hE=>?_)
               clear HST HQ
               go_wp2_with fail
               exact bodyPost_ret (results_row_row rfl _ _ (z + 1) 86 ((itA default)) (0,0) _ rfl (hE.res.1) Tryz.underlying86 rfl HZI.out (z + 2) 89 (logA 1 y9 t v9 h9) (0,0) _ rfl (hE.res.2) Tryz.underlying89 rfl HZL.out) rfl ⟨_,rfl,hE.log,hE.x⟩
              | ret v =>
               rcases HREST.out with ⟨hne,_⟩ | ⟨v8,hv8,hrun8⟩
               case inl=>exact absurd rfl (hne v)
               cases hv8
               obtain rfl:rv=v:=HHRV.out
               obtain ⟨rfl,rfl⟩:kd=0∧y9=0:=by have h9:=HHKE.out; cases h9; exact ⟨rfl,rfl⟩
               have HEND:=Lib.hid (HEND16.out v9 h9 hrun8)
               clear hrun8 HEND16 HREST
               go_upto_region 78 with fail
               clear i0 i1 i2 i3 i4 i5 i6
               rcases own_cases S8.out.st with ⟨hv0,hK0⟩ | ⟨bk,kc,hkv,hkc,hbk,hrk⟩
               ·have e1:vA2=none:=by injection hv0
                have e2:vcap=0:=by injection hv0
                subst e1 e2
                have hl0:K.length=0:=by rw [hK0]; rfl
                obtain rfl:m=0:=by omega
                obtain rfl:nb=0:=by have:=HHM.out; omega
                obtain rfl:kl=0:=by rw [HKL.out]; exact hl0
                have HS8:=Lib.hid S8.out
                have S8:Hid (SkSt w0 z len 0 0 t1 v9 h9 gp PL base (.slice none 0 0) [] w8):=by have h9:=S8.out; rw [hK0] at h9; exact h9
                have q2:w8.cell? ⟨zx,2,none⟩=some (.int .i64 0):=q2
                have hw0:IntKind.i64.wrap ((0:Int) - 0)=0:=by rfl
                have hw00:IntKind.i64.wrap (0:Int)=0:=by rfl
                clear hwd hnb64 hl0 hv0
                have r0:w8.cell? ⟨g23,0,none⟩=some (.int .i64 rv.n):=BG8.out.cell 0
                have r1:w8.cell? ⟨g23,1,none⟩=some (.bool rv.null):=BG8.out.cell 1
                have r2:w8.cell? ⟨g23,2,none⟩=some (.string rv.err):=BG8.out.cell 2
                have zr:=BG8.out.lt
                have hb0:base ≤ w8.heap.size:=S8.out.base_le
                have SA:=Lib.hid ((S8.out.ext' (Ext.refl _).drew).lit (q:=w8.heap.size) (by simp))
                have SB:Hid (SkSt w0 z len 0 0 t1 v9 h9 gp PL base (.slice (some ⟨w8.heap.size,0,none⟩) 0 0) [] ((w8.drew.alloc (.cells #[] 86)).alloc (.cells (itA (rv)) 86))):=SA.out.ext' ((Ext.refl _).alloc _)
                have SC:Hid (SkSt w0 z len 0 0 t1 v9 h9 gp PL base (.slice (some ⟨w8.heap.size + 1,0,none⟩) 0 0) [] ((w8.drew.alloc (.cells (itA (rv)) 86)).alloc (.cells #[] 86))):=(S8.out.ext' ((Ext.refl _).drew.alloc _)).lit (by simp)
                have OA:Hid (World.ownsRow (w8.drew.alloc (.cells #[] 86)) w8.heap.size 86 3 (.slice (some ⟨w8.heap.size,0,none⟩) 0 0) ([]:List Val).length (recCells 3 itC [])):=own_nothing w8.drew w8.heap.size _ _ _ (by simp) (Nat.le_refl _)
                have OB:Hid (World.ownsRow ((w8.drew.alloc (.cells #[] 86)).alloc (.cells (itA (rv)) 86)) w8.heap.size 86 3 (.slice (some ⟨w8.heap.size,0,none⟩) 0 0) ([]:List Val).length (recCells 3 itC [])):=own_ext OA.out ((Ext.refl _).alloc _)
                have OC:Hid (World.ownsRow ((w8.drew.alloc (.cells (itA (rv)) 86)).alloc (.cells #[] 86)) w8.heap.size 86 3 (.slice (some ⟨w8.heap.size + 1,0,none⟩) 0 0) ([]:List Val).length (recCells 3 itC [])):=own_nothing (w8.drew.alloc (.cells (itA (rv)) 86)) w8.heap.size _ _ _ (by simp) (by omega)
                have XB:Hid (Ext w8 ((w8.drew.alloc (.cells #[] 86)).alloc (.cells (itA (rv)) 86))):=((Ext.refl _).drew.alloc _).alloc _
                have XC:Hid (Ext w8 ((w8.drew.alloc (.cells (itA (rv)) 86)).alloc (.cells #[] 86))):=((Ext.refl _).drew.alloc _).alloc _
                have BB:Hid (Blk ((w8.drew.alloc (.cells #[] 86)).alloc (.cells (itA (rv)) 86)) (w8.heap.size + 1) 86 (itA (rv))):=blk_newer (by simp)
                have BC:Hid (Blk ((w8.drew.alloc (.cells (itA (rv)) 86)).alloc (.cells #[] 86)) w8.heap.size 86 (itA (rv))):=(blk_newer (by simp)).alloc _
                go_region_held3 (fun w'=>w'.cell? ⟨g23,0,none⟩=some (.int .i64 rv.n)∧w'.cell? ⟨g23,1,none⟩=some (.bool rv.null)∧w'.cell? ⟨g23,2,none⟩=some (.string rv.err)∧w'.cell? ⟨zx,2,none⟩=some (.int .i64 0)) (first | exact HS2.out | go_keep) (first
                 | (refine step_bs_no (by rfl) (by rfl) ?_)
                 | (refine step_bs_it (by rfl) _ (by rfl) (rv) (by rfl) ?_)
                 | (refine step_its_none (by rfl) _ _ (by rfl) w8.heap.size _ (by rfl) OA.out (by rfl) ?_)
                 | (refine step_its_none (by rfl) _ _ (by rfl) w8.heap.size _ (by rfl) OB.out (by rfl) ?_)
                 | (refine step_its_none (by rfl) _ _ (by rfl) w8.heap.size _ (by rfl) OC.out (by rfl) ?_)
                 | (refine step_its (by rfl) _ _ (by rfl) w8.heap.size _ [] [rv] (by rfl) OB.out _ 0 1 1 (by rfl) (by rfl) (lit_its BB.out) (by simp) XB.out.size ?_; intro v2 w2 st2 g2; have S2:=Lib.hid (SB.out.push g2 (own_low st2 hb0)); have X2:Hid (Ext w8 w2):=XB.out.grown g2 (fun q e=>by have h9:=Option.some.inj e; simp at h9; omega); have HS2:Hid (w2.cell? ⟨g23,0,none⟩=some (.int .i64 rv.n)∧w2.cell? ⟨g23,1,none⟩=some (.bool rv.null)∧w2.cell? ⟨g23,2,none⟩=some (.string rv.err)∧w2.cell? ⟨zx,2,none⟩=some (.int .i64 0)):=⟨(X2.out.cell (p:=⟨g23,0,none⟩) zr).trans r0,(X2.out.cell (p:=⟨g23,1,none⟩) zr).trans r1,(X2.out.cell (p:=⟨g23,2,none⟩) zr).trans r2,(X2.out.cell (p:=⟨zx,2,none⟩) zq).trans q2⟩)
                 | (refine step_its (by rfl) _ _ (by rfl) w8.heap.size _ [] [rv] (by rfl) OC.out _ 0 1 1 (by rfl) (by rfl) (lit_its BC.out) (by simp) XC.out.size ?_; intro v2 w2 st2 g2; have S2:=Lib.hid (SC.out.push g2 (own_low st2 hb0)); have X2:Hid (Ext w8 w2):=XC.out.grown g2 (fun q e=>by have h9:=Option.some.inj e; simp at h9; omega); have HS2:Hid (w2.cell? ⟨g23,0,none⟩=some (.int .i64 rv.n)∧w2.cell? ⟨g23,1,none⟩=some (.bool rv.null)∧w2.cell? ⟨g23,2,none⟩=some (.string rv.err)∧w2.cell? ⟨zx,2,none⟩=some (.int .i64 0)):=⟨(X2.out.cell (p:=⟨g23,0,none⟩) zr).trans r0,(X2.out.cell (p:=⟨g23,1,none⟩) zr).trans r1,(X2.out.cell (p:=⟨g23,2,none⟩) zr).trans r2,(X2.out.cell (p:=⟨zx,2,none⟩) zq).trans q2⟩))
                all_goals
                 go_wp2_with fail
                 go_meet
                 case rel=>exact HEND.out _ _ S2.out
               ·obtain ⟨rfl,rfl⟩:vA2=some ⟨bk,0,none⟩∧vcap=kc:=by cases hkv; exact ⟨rfl,rfl⟩
                have HR8:=Lib.hid hrk
                have hkI:(kl:Int) ≤ (vcap:Int):=by have:=HKL.out; omega
                have hmc:(m:Int) ≤ (vcap:Int):=by omega
                clear hkv hrk
                have r0:w8.cell? ⟨g23,0,none⟩=some (.int .i64 rv.n):=BG8.out.cell 0
                have r1:w8.cell? ⟨g23,1,none⟩=some (.bool rv.null):=BG8.out.cell 1
                have r2:w8.cell? ⟨g23,2,none⟩=some (.string rv.err):=BG8.out.cell 2
                have zr:=BG8.out.lt
                have hb0:base ≤ w8.heap.size:=S8.out.base_le
                have SA:=Lib.hid ((S8.out.ext' (Ext.refl _).drew).lit (q:=w8.heap.size) (by simp))
                have SB:Hid (SkSt w0 z len 0 0 t1 v9 h9 gp PL base (.slice (some ⟨w8.heap.size,0,none⟩) 0 0) [] ((w8.drew.alloc (.cells #[] 86)).alloc (.cells (itA (rv)) 86))):=SA.out.ext' ((Ext.refl _).alloc _)
                have SC:Hid (SkSt w0 z len 0 0 t1 v9 h9 gp PL base (.slice (some ⟨w8.heap.size + 1,0,none⟩) 0 0) [] ((w8.drew.alloc (.cells (itA (rv)) 86)).alloc (.cells #[] 86))):=(S8.out.ext' ((Ext.refl _).drew.alloc _)).lit (by simp)
                have OA:Hid (World.ownsRow (w8.drew.alloc (.cells #[] 86)) w8.heap.size 86 3 (.slice (some ⟨w8.heap.size,0,none⟩) 0 0) ([]:List Val).length (recCells 3 itC [])):=own_nothing w8.drew w8.heap.size _ _ _ (by simp) (Nat.le_refl _)
                have OB:Hid (World.ownsRow ((w8.drew.alloc (.cells #[] 86)).alloc (.cells (itA (rv)) 86)) w8.heap.size 86 3 (.slice (some ⟨w8.heap.size,0,none⟩) 0 0) ([]:List Val).length (recCells 3 itC [])):=own_ext OA.out ((Ext.refl _).alloc _)
                have OC:Hid (World.ownsRow ((w8.drew.alloc (.cells (itA (rv)) 86)).alloc (.cells #[] 86)) w8.heap.size 86 3 (.slice (some ⟨w8.heap.size + 1,0,none⟩) 0 0) ([]:List Val).length (recCells 3 itC [])):=own_nothing (w8.drew.alloc (.cells (itA (rv)) 86)) w8.heap.size _ _ _ (by simp) (by omega)
                have XA:Hid (Ext w8 (w8.drew.alloc (.cells #[] 86))):=(Ext.refl _).drew.alloc _
                have XB:Hid (Ext w8 ((w8.drew.alloc (.cells #[] 86)).alloc (.cells (itA (rv)) 86))):=((Ext.refl _).drew.alloc _).alloc _
                have XC:Hid (Ext w8 ((w8.drew.alloc (.cells (itA (rv)) 86)).alloc (.cells #[] 86))):=((Ext.refl _).drew.alloc _).alloc _
                have RA:=Lib.hid (its_take (m:=m) (HR8.out.ext XA.out) (by omega))
                have RB:=Lib.hid (its_take (m:=m) (HR8.out.ext XB.out) (by omega))
                have RC:=Lib.hid (its_take (m:=m) (HR8.out.ext XC.out) (by omega))
                have BB:Hid (Blk ((w8.drew.alloc (.cells #[] 86)).alloc (.cells (itA (rv)) 86)) (w8.heap.size + 1) 86 (itA (rv))):=blk_newer (by simp)
                have BC:Hid (Blk ((w8.drew.alloc (.cells (itA (rv)) 86)).alloc (.cells #[] 86)) w8.heap.size 86 (itA (rv))):=(blk_newer (by simp)).alloc _
                go_region_held3 (fun w'=>w'.cell? ⟨g23,0,none⟩=some (.int .i64 rv.n)∧w'.cell? ⟨g23,1,none⟩=some (.bool rv.null)∧w'.cell? ⟨g23,2,none⟩=some (.string rv.err)∧w'.cell? ⟨zx,2,none⟩=some (.int .i64 nb)) (first | exact HS2.out | exact HS1.out | go_keep) (first
                 | (refine step_bs_no (by rfl) (by rfl) ?_)
                 | (refine step_bs_it (by rfl) _ (by rfl) (rv) (by rfl) ?_)
                 | (refine step_its (by rfl) _ _ (by rfl) w8.heap.size _ [] (K.take m) (by rfl) OA.out bk 0 m vcap (by rw [List.length_take]; omega) (by rfl) RA.out (by rw [List.length_take]; simp; omega) XA.out.size ?_; intro v1 w1 st1 g1; have S1:=Lib.hid (SA.out.push g1 (own_low st1 hb0)); have X1:Hid (Ext w8 w1):=XA.out.grown g1 (fun q e=>by have h9:=Option.some.inj e; simp at h9; omega); have HS1:Hid (w1.cell? ⟨g23,0,none⟩=some (.int .i64 rv.n)∧w1.cell? ⟨g23,1,none⟩=some (.bool rv.null)∧w1.cell? ⟨g23,2,none⟩=some (.string rv.err)∧w1.cell? ⟨zx,2,none⟩=some (.int .i64 nb)):=⟨(X1.out.cell (p:=⟨g23,0,none⟩) zr).trans r0,(X1.out.cell (p:=⟨g23,1,none⟩) zr).trans r1,(X1.out.cell (p:=⟨g23,2,none⟩) zr).trans r2,(X1.out.cell (p:=⟨zx,2,none⟩) zq).trans q2⟩)
                 | (refine step_its (by rfl) _ _ (by rfl) w8.heap.size _ [] (K.take m) (by rfl) OB.out bk 0 m vcap (by rw [List.length_take]; omega) (by rfl) RB.out (by rw [List.length_take]; simp; omega) XB.out.size ?_; intro v1 w1 st1 g1; have S1:=Lib.hid (SB.out.push g1 (own_low st1 hb0)); have X1:Hid (Ext w8 w1):=XB.out.grown g1 (fun q e=>by have h9:=Option.some.inj e; simp at h9; omega); have HS1:Hid (w1.cell? ⟨g23,0,none⟩=some (.int .i64 rv.n)∧w1.cell? ⟨g23,1,none⟩=some (.bool rv.null)∧w1.cell? ⟨g23,2,none⟩=some (.string rv.err)∧w1.cell? ⟨zx,2,none⟩=some (.int .i64 nb)):=⟨(X1.out.cell (p:=⟨g23,0,none⟩) zr).trans r0,(X1.out.cell (p:=⟨g23,1,none⟩) zr).trans r1,(X1.out.cell (p:=⟨g23,2,none⟩) zr).trans r2,(X1.out.cell (p:=⟨zx,2,none⟩) zq).trans q2⟩; have BL1:=Lib.hid (BB.out.grown g1 (fun e=>by have h9:=Option.some.inj e; simp at h9)))
                 | (refine step_its (by rfl) _ _ (by rfl) w8.heap.size _ [] (K.take m) (by rfl) OC.out bk 0 m vcap (by rw [List.length_take]; omega) (by rfl) RC.out (by rw [List.length_take]; simp; omega) XC.out.size ?_; intro v1 w1 st1 g1; have S1:=Lib.hid (SC.out.push g1 (own_low st1 hb0)); have X1:Hid (Ext w8 w1):=XC.out.grown g1 (fun q e=>by have h9:=Option.some.inj e; simp at h9; omega); have HS1:Hid (w1.cell? ⟨g23,0,none⟩=some (.int .i64 rv.n)∧w1.cell? ⟨g23,1,none⟩=some (.bool rv.null)∧w1.cell? ⟨g23,2,none⟩=some (.string rv.err)∧w1.cell? ⟨zx,2,none⟩=some (.int .i64 nb)):=⟨(X1.out.cell (p:=⟨g23,0,none⟩) zr).trans r0,(X1.out.cell (p:=⟨g23,1,none⟩) zr).trans r1,(X1.out.cell (p:=⟨g23,2,none⟩) zr).trans r2,(X1.out.cell (p:=⟨zx,2,none⟩) zq).trans q2⟩; have BL1:=Lib.hid (BC.out.grown g1 (fun e=>by have h9:=Option.some.inj e; simp at h9)))
                 | (refine step_its (by rfl) _ _ (by rfl) w8.heap.size _ ([] ++ K.take m) [rv] (by rfl) (own_ext st1 ((Ext.refl _).alloc (.cells (itA (rv)) 86))) w1.heap.size 0 1 1 (by rfl) (by rfl) (lit_its (blk_newer rfl)) (by simp; omega) (X1.out.alloc (.cells (itA (rv)) 86)).size ?_; intro v2 w2 st2 g2; have S2:=Lib.hid ((S1.out.ext' ((Ext.refl _).alloc (.cells (itA (rv)) 86))).push g2 (own_low st2 hb0)); have X2:Hid (Ext w8 w2):=(X1.out.alloc (.cells (itA (rv)) 86)).grown g2 (fun q e=>(st1.lt q e).1); have HS2:Hid (w2.cell? ⟨g23,0,none⟩=some (.int .i64 rv.n)∧w2.cell? ⟨g23,1,none⟩=some (.bool rv.null)∧w2.cell? ⟨g23,2,none⟩=some (.string rv.err)∧w2.cell? ⟨zx,2,none⟩=some (.int .i64 nb)):=⟨(X2.out.cell (p:=⟨g23,0,none⟩) zr).trans r0,(X2.out.cell (p:=⟨g23,1,none⟩) zr).trans r1,(X2.out.cell (p:=⟨g23,2,none⟩) zr).trans r2,(X2.out.cell (p:=⟨zx,2,none⟩) zq).trans q2⟩)
                 | (refine step_its (by rfl) _ _ (by rfl) w8.heap.size _ ([] ++ K.take m) [rv] (by rfl) st1 _ 0 1 1 (by rfl) (by rfl) (lit_its BL1.out) (by simp; omega) X1.out.size ?_; intro v2 w2 st2 g2; have S2:=Lib.hid (S1.out.push g2 (own_low st2 hb0)); have X2:Hid (Ext w8 w2):=X1.out.grown g2 (fun q e=>(st1.lt q e).1); have HS2:Hid (w2.cell? ⟨g23,0,none⟩=some (.int .i64 rv.n)∧w2.cell? ⟨g23,1,none⟩=some (.bool rv.null)∧w2.cell? ⟨g23,2,none⟩=some (.string rv.err)∧w2.cell? ⟨zx,2,none⟩=some (.int .i64 nb)):=⟨(X2.out.cell (p:=⟨g23,0,none⟩) zr).trans r0,(X2.out.cell (p:=⟨g23,1,none⟩) zr).trans r1,(X2.out.cell (p:=⟨g23,2,none⟩) zr).trans r2,(X2.out.cell (p:=⟨zx,2,none⟩) zq).trans q2⟩))
                all_goals
                 go_wp2_with fail
                 go_meet
                 case rel=>exact HEND.out _ _ S2.out
         case rest =>
          as_aux_lemma =>
           obtain ⟨p',PL',K',s',vC',h',y,rfl,rfl,hpl',hs',hss,hsk,hend⟩:=hcut
           have SF:=Lib.hid hsk
           have HPL2:=Lib.hid hpl'
           have HV2:Hid (vC'.oneCell'=true):=by obtain ⟨_,_,hc⟩:=hsk.cl; exact hc.one
           obtain ⟨vA9,vc9,hv9,_⟩:=own_slice hsk.st
           subst hv9
           clear hsk hpl' X5 BX5 BT5 q0 q1 q2 q3 q4 q5 q6 q7 q8 zq S3 HRX HI
           rcases hend with ⟨rfl,hp',hre',hr'⟩ | ⟨hy,rfl,rfl⟩
           ·have HRE2:=Lib.hid hre'
            have HR2:=Lib.hid hr'
            clear hre' hr'
            go_upto_if 348 with fail
            by_cases hd1:(d:Int)=1
            ·obtain ⟨z0,i0,i1,i2,i3,i4,i5,i6,fz⟩:=log_facts SF.out.bl
             have fz4:=fz 4
             clear fz
             go_wp2_with fail
             go_roundg (gk - 1)
             case rel=>exact ⟨p',PL',K',s',vC',_,rfl,hp',HRE2.out,hs',by omega,HPL2.out,SF.out.log (cell_grown _ z 4 _) (SF.out.bl.set_ 4 _) SF.out.cl,HR2.out⟩
             case measure=>omega
            ·go_wp2_with fail
             go_roundg (gk - 1)
             case rel=>exact ⟨p',PL',K',s',vC',_,rfl,hp',HRE2.out,hs',by omega,HPL2.out,SF.out,HR2.out⟩
             case measure=>omega
           ·have hyb:(y == 0)=false:=by simpa using hy
            obtain ⟨z0,i0,i1,i2,i3,i4,i5,i6,fz⟩:=log_facts SF.out.bl
            have fz0:=fz 0
            have fz1:=fz 1
            clear fz
            go_wp2_with fail
            have S8:Hid (SkSt w0 z len 1 0 t vC' h' gp PL' base (.slice vA9 K'.length vc9) K' (wc.setCell ⟨z,0,none⟩ (.int .i64 1))):=SF.out.log (cell_grown _ z 0 (.int .i64 1)) (SF.out.bl.set_ 0 _) SF.out.cl
            have S9:Hid (SkSt w0 z len 1 y t vC' h' gp PL' base (.slice vA9 K'.length vc9) K' ((wc.setCell ⟨z,0,none⟩ (.int .i64 1)).setCell ⟨z,1,none⟩ (.int .i64 y))):=S8.out.log (cell_grown _ z 1 (.int .i64 y)) (S8.out.bl.set_ 1 _) S8.out.cl
            clear i0 i1 i2 i3 i4 i5 i6 z0 fz0 fz1 S8
            refine flow_begin (EndSt w0 z len 1 y t vC' h' (itA default)) #[false,false,false,false] rfl (by kernel_rfl) (fun _ _ _ _ _ h=>h) (S9.out.endS) (fun HQ=>?_)
            have HST:∀ (i:Nat) (_:i ≠ 2:=by decide) (_:i ≠ 3:=by decide) (l:Array Bool) (w':World),EndSt w0 z len 1 y t vC' h' (itA default) (l.setIfInBounds i true) w' ↔ EndSt w0 z len 1 y t vC' h' (itA default) l w':=fun i h2 h3 l w'=>EndSt.other h2 h3
            (refine tp 0 345 rfl HQ (HST 0) ?_; try simp only [putL,List.set])
            refine flow_take (i:=1) (t:=346) (oi:=⟨some 346,_,_,_,_,_⟩) rfl rfl (by kernel_rfl) (by kernel_rfl) (by kernel_rfl) HQ (HST 1) (does_load (by rfl) 89 _ rfl z 0 rfl (logA 1 y t vC' h').toList _ (fun l w' hF=>hF.bl.all) Tryz.underlying89 rfl HZL.out) ?_
            try simp only [putL,List.set]
            refine flow_put (i:=2) (oi:=⟨none,_,_,_,_,none⟩) rfl rfl (stores_mid (i:=2) rfl 86 _ _ rfl (z + 1) 0 ((itA default)) rfl rfl (fun l w' h=>h.there1 rfl) HZI.out (itA_all _) (fun l w' h=>h.put1 rfl)) (by kernel_rfl) ?_
            try simp only [Array.set!,Array.setIfInBounds,putL,List.set]
            refine flow_store1 (i:=3) (oi:=⟨none,_,_,_,_,none⟩) rfl rfl (stores_mid (i:=3) rfl 89 _ _ rfl (z + 2) 0 (logA 1 y t vC' h') rfl rfl (fun l w' h=>h.there2) HZL.out (logA_all _ _ _ _ HV2.out) (fun l w' h=>h.put2)) (by kernel_rfl) (by kernel_rfl) (fun w9 hE=>?_)
            clear HST HQ
            go_wp2_with fail
            exact bodyPost_ret (results_row_row rfl _ _ (z + 1) 86 ((itA default)) (0,0) _ rfl (hE.res.1) Tryz.underlying86 rfl HZI.out (z + 2) 89 (logA 1 y t vC' h') (0,0) _ rfl (hE.res.2) Tryz.underlying89 rfl HZL.out) rfl ⟨_,rfl,hE.log,hE.x⟩
end Go.Proofs.YtcoookehfhhhdaaGreatDoor.c
