/- slices.Clone of parameters; tree.Copy: the same program in new memory that may be written. Condition: what is copied lies in elder memory. -/
import Derived.Test.YtmmnhbhnjiajhaaGreatDoorCYe
import Derived.Test.YtmmnhbhnjiajhaaGreatDoorCUt
import Derived.Lib.LazyBuf
namespace Go.Proofs.YtmmnhbhnjiajhaaGreatDoor.c
open Go.RowKit
set_option linter.unusedVariables false
set_option maxRecDepth 100000
set_option maxHeartbeats 6400000
set_option linter.unusedSimpArgs false
theorem Elems.any4 {V V':Vw}:∀ (x:Nd) (xs:List Value),Elems V x 4 xs → Elems V' x 4 xs
 | .nil,_,e=>e
 | .ex ..,_,⟨hk,_⟩=>absurd hk (by decide)
 | .st ..,_,⟨hk,_⟩=>absurd hk (by decide)
 | .bl ..,_,⟨hk,_⟩=>absurd hk (by decide)
 | .ca ..,_,⟨hk,_⟩=>absurd hk (by decide)
 | .pa nm ty kn tl,xs,⟨hk,r,e,h3⟩=>⟨hk,r,e,Elems.any4 tl r h3⟩
 | .de ..,_,⟨hk,_⟩=>absurd hk (by decide)
theorem clone_any (x:Nd) (hx:x.len ≤ 100000000) (w:World) (v:Value) (p:Nat → Prop) (hsl:Sl (vp p w) v x 4):Calls Tryz.prog 37 #[v] w fun e w'=>∃ u,e=.returned u∧Sl (vp (fz w.heap.size w') w') u x 4∧Ext w w':=by
 obtain ⟨A,c,xs,rfl,hr,he⟩:=hsl
 have hlen:=Elems.length x 4 xs he
 have h1:=Elems.ones x 4 xs he
 have q30:∀ (w:World) (a:Option Addr) (n c:Nat),(binOp .eql 30 (.slice a n c) (.slice none 0 0)).run Tryz.prog w=.ok (.bool a.isNone) w:=fun w a n c=>Lib.run_eql_slice_nil w _ _ a n c 0 0 Tryz.underlying30
 cases A with
 | none =>
  have h0:xs=[]:=by
   rcases xs with _ | ⟨y,ys⟩
   ·rfl
   ·obtain ⟨b,o,e,_⟩:=hr (by simp)
    cases e
  subst h0
  have hn:x.len=0:=by
   have:x.len * 7=0:=by simpa [szK] using hlen.symm
   omega
  clear hr hlen
  generalize hN:x.len=N at *
  subst hn
  go_enter Tryz.func37,Tryz.ntmps37
  go_wp2_with fail
  go_ret
  exact ⟨.slice none 0 0,rfl,⟨none,0,[],by rw [hN],fun h=>absurd rfl h,Elems.any4 x [] he⟩,Ext.refl _⟩
 | some ad =>
  have hc:∀ j u,xs[j]?=some u → w.cell? (ad.add j)=some u:=fun j u hj=>by
   obtain ⟨b,o,e,hcell⟩:=hr (by rintro rfl; simp at hj)
   cases e
   rw [Addr.add_mid]
   exact (vp_some (hcell j u hj)).2
  obtain ⟨i0,hi0,hz0,hz1,hz2⟩:=info_parts infoPa
  have HA:Hid (∀ j u,xs[j]?=some u → w.cell? (ad.add j)=some u):=hc
  have HE:=Lib.hid he
  have HL:Hid (xs.length=x.len * 7):=hlen
  have H1:=Lib.hid h1
  have HI:=Lib.hid (And.intro hi0 (And.intro hz0 (And.intro hz1 hz2)))
  clear hr hlen hc h1 he hi0 hz0 hz1 hz2
  generalize hN:x.len=N at *
  have HN:=Lib.hid hN
  clear hN
  go_enter Tryz.func37,Tryz.ntmps37
  go_wp2_with (at_builtin; refine wpList_append_own _ rfl _ _ 30 rfl w.heap.size 40 i0 _ 7 64 Tryz.underlying30 HI.out.1 HI.out.2.1 HI.out.2.2.1 HI.out.2.2.2 rfl (by decide) _ 0 [] rfl (World.ownsRow_made w #[] 0 (Nat.le_refl _) (Nat.zero_le _) rfl) ad N c xs rfl HL.out ?qc2 H1.out ?qc4 ?qc5 ?qc6 ?_)
  case qc2 =>
   intro j u hj
   exact Lib.cell?_alloc_some _ (HA.out j u hj)
  case qc4=>unfold maxLen; omega
  case qc5=>omega
  case qc6=>simp
  intro v' w1 hown hgrow hnil
  go_wp2_with fail
  go_ret
  refine ⟨v',rfl,?_,((Ext.refl w).alloc _).grown hgrow (fun k hk=>by simp [Value.ownBlock] at hk; omega)⟩
  refine Sl.own hown (Elems.any4 x xs HE.out) (fun g hg=>?_) HN.out.symm
  rcases hown.2 with ⟨rfl,_⟩ | ⟨g',cap,cur,rfl,hb,hg',_⟩
  ·cases hg
  ·cases hg; exact ⟨hb,_,cur,hg'⟩
theorem deA_2 {fn:Bool} {nm:ByteArray} {ps u:Value} {ty:Ty} {ex:Array Value} {body:Value} (h:ex.size=10):(deA fn nm ps ty ex body).setIfInBounds 2 u=deA fn nm u ty ex body:=by
 obtain ⟨a,b,c,d,e,f,g,i,j,k,rfl⟩:=arr10 h
 kernel_rfl
theorem deA_18 {fn:Bool} {nm:ByteArray} {ps u:Value} {ty:Ty} {ex:Array Value} {body:Value} (h:ex.size=10):(deA fn nm ps ty ex body).setIfInBounds 18 u=deA fn nm ps ty ex u:=by
 obtain ⟨a,b,c,d,e,f,g,i,j,k,rfl⟩:=arr10 h
 kernel_rfl
theorem deA_8 {fn:Bool} {nm:ByteArray} {ps:Value} {ty:Ty} {ex cs:Array Value} {body:Value} (h:ex.size=10) (h2:cs.size=10):putA (deA fn nm ps ty ex body) 8 cs.toList=deA fn nm ps ty cs body:=by
 obtain ⟨a,b,c,d,e,f,g,i,j,k,rfl⟩:=arr10 h
 obtain ⟨a,b,c,d,e,f,g,i,j,k,rfl⟩:=arr10 h2
 kernel_rfl
theorem deA_get2 {fn:Bool} {nm:ByteArray} {ps:Value} {ty:Ty} {ex:Array Value} {body:Value} (h:ex.size=10):(deA fn nm ps ty ex body)[2]?=some ps:=by
 obtain ⟨a,b,c,d,e,f,g,i,j,k,rfl⟩:=arr10 h
 rfl
theorem deA_get18 {fn:Bool} {nm:ByteArray} {ps:Value} {ty:Ty} {ex:Array Value} {body:Value} (h:ex.size=10):(deA fn nm ps ty ex body)[18]?=some body:=by
 obtain ⟨a,b,c,d,e,f,g,i,j,k,rfl⟩:=arr10 h
 rfl
theorem deA_getE {fn:Bool} {nm:ByteArray} {ps:Value} {ty:Ty} {ex:Array Value} {body:Value} (j:Nat) (v:Value) (h:ex.toList[j]?=some v):(deA fn nm ps ty ex body)[8 + j]?=some v:=by
 have hj:j < ex.size:=by simpa using (List.getElem?_eq_some_iff.1 h).1
 have h8:(#[.bool fn,.string nm,ps,.int .i64 ty.base,.int .i64 ty.bits,.string ty.name,.bool ty.opt,.bool ty.err]:Array Value).size=8:=rfl
 unfold deA
 rw [Array.getElem?_append_left (by rw [Array.size_append,h8]; omega),Array.getElem?_append_right (by rw [h8]; omega),h8,Nat.add_sub_cancel_left]
 simpa using h
theorem CpB.sets {w:World} {t:TypeId}:∀ (vs:List Value) (o:Nat) (cs:Array Value) (wr:World),CpB w t cs wr → CpB w t (putA cs o vs) (wr.setCells w.heap.size o vs)
 | [],_,_,_,h=>h
 | v :: r,o,cs,wr,h=>CpB.sets r (o + 1) _ _ (h.put o v)
theorem CpB.there {w wr:World} {t:TypeId} {cs:Array Value} (h:CpB w t cs wr) (o n:Nat) (ho:o + n ≤ cs.size):wr.there w.heap.size o n:=fun j hj=>⟨by rw [h.box.cell,Array.getElem?_eq_getElem (by omega)]; rfl,h.box.frozen _⟩
theorem setCells_size {g:Nat}:∀ (vs:List Value) (o:Nat) (w:World),(w.setCells g o vs).heap.size=w.heap.size
 | [],_,_=>rfl
 | v :: r,o,w=>(setCells_size r (o + 1) _).trans (setCell_sz ..)
theorem copy_any (x:Nd) (hx:x.sz < 100000000) (w:World) (v:Value) (p:Nat → Prop) (hp:∀ b,p b → b < w.heap.size) (hsl:Sl (vp p w) v x 5):Calls Tryz.prog 14 #[v] w fun e w'=>∃ u,e=.returned u∧Sl (vp (fz w.heap.size w') w') u x 5∧Ext w w':=by
 have HZ:Hid ((Tryz.prog.info? 38).map (·.size)=some 19):=by unfold Hid; kernel_rfl
 have HX:Hid ((Tryz.prog.info? 36).map (·.size)=some 10):=by unfold Hid; kernel_rfl
 obtain ⟨ihX,_,ihB⟩:=cp_all 100000000 (Nat.le_refl _)
 have IX:=Lib.hid ihX
 have IB:=Lib.hid ihB
 obtain ⟨A,c,rfl,la⟩:=hsl.lp
 have hxl:=len_sz x
 generalize hN:x.len=N at *
 have hNn:N ≤ 100000000:=by omega
 have C0:Hid (CpL p 38 5 w A N 0 x x sl0 .nil w):=CpL.init la
 have HP:=Lib.hid hp
 have HN:=Lib.hid hN
 clear la hsl hxl hN hp ihX ihB
 go_enter Tryz.func14,Tryz.ntmps14
 go_wp2_with fail
 go_loopw [3,8] (fun v u wr=>∃ (i:Nat) (r acc:Nd),u=.int .i64 i∧Hid (CpL p 38 5 w A N i x r v acc wr)∧r.sz ≤ x.sz) (fun _ u _=>N - (intOf u).toNat)
 case atStart=>exact ⟨0,x,.nil,rfl,C0,Nat.le_refl _⟩
 case round =>
  clear C0
  obtain ⟨i,r,acc,rfl,K,hrz⟩:=hrel
  by_cases hlt:i < N
  ·have hrl:0 < r.len:=by have:=K.out.L.1; omega
   obtain ⟨fn,nm,ps,ty,val,b,tl,rfl⟩:∃ fn nm ps ty val b r',r=.de fn nm ps ty val b r':=by
    obtain ⟨_,xs,_,_,he⟩:=K.out.L
    exact he.de1 hrl
   obtain ⟨bb,o,ds,hA,hnv,hc,_⟩:=K.out.L.step hlt
   obtain ⟨vps,ys,vb,hds,hps,hys,hb⟩:=nv_deI hnv
   obtain rfl:ds=deA fn nm vps ty ys vb:=hds
   have hltI:(i:Int) < (N:Int):=by omega
   have hwi:wrap64 ((i:Int) + 1)=(i:Int) + 1:=IntWalk.wrap64_in _ (by omega)
   have hz1:ps.sz < 100000000∧val.sz < 100000000∧b.sz < 100000000∧tl.sz ≤ x.sz:=by simp only [Nd.sz] at hrz; omega
   have hpl:ps.len ≤ 100000000:=by have:=len_sz ps; omega
   have hal:acc.len ≤ 100000000:=by have:=K.out.len; have:=HN.out; omega
   have hys1:ys.size=10:=hys.size
   have NV:=Lib.hid hnv
   have HC:=Lib.hid hc
   have Hps:=Lib.hid hps
   have Hys:=Lib.hid hys
   have Hb:=Lib.hid hb
   have HS:Hid ((deA fn nm vps ty ys vb).size=19):=deA_size hys1
   subst hA
   clear hnv hc hrz hps hys hb
   go_wp2_with (first
    | ((with_reducible show wpList _ _ _ (Oper.mk (some 11) (.load 38 (.tmp 10)) _ _ _ _ :: _) _ _); refine wpList_load_mid rfl _ _ rfl _ _ rfl (deA fn nm vps ty ys vb).toList _ (fun j v hv=>(vp_some (HC.out j v hv)).2) Tryz.underlying38 rfl (by rw [Array.length_toList,HS.out]; exact HZ.out) ?_; rw [Array.toArray_toList])
    | ((with_reducible show wpList _ _ _ (Oper.mk none (.store 38 (.tmp 5) _) _ _ _ _ :: _) _ _); refine wpList_store_row rfl _ _ _ rfl wr.heap.size rfl 38 zDe (deA fn nm vps ty ys vb) (Blk.new wr _ zDe) rfl (HS.out.trans zDe_size.symm) NV.out.one (by rw [HS.out]; exact HZ.out) ?_; refine nmW fun w3 hw3=>?_
       have B3:Hid (CpB wr 38 (deA fn nm vps ty ys vb) w3):=by rw [← hw3]; exact CpB.new wr _ zDe _
       have hz3:w3.heap.size=wr.heap.size + 1:=by rw [← hw3]; simp
       have q2:w3.cell? ⟨wr.heap.size,2,none⟩=some vps:=(B3.out.box.cell 2).trans (deA_get2 hys1)
       clear hw3)
    | (go_at_call 37; refine (clone_any ps hpl _ vps p (Hps.out.mono (vp_ext B3.out.ext))).mono ?_; rintro e w4 ⟨up,rfl,hup,x4⟩
       obtain ⟨Ap,np,kp,rfl,_⟩:=Sl.shape hup
       have B4:=Lib.hid (B3.out.to x4)
       have q2':w4.cell? ⟨wr.heap.size,2,none⟩=some vps:=(B4.out.box.cell 2).trans (deA_get2 hys1)
       have qf:=B4.out.box.frozen
       have hl4:=B4.out.box.lt
       have B5:Hid (CpB wr 38 (deA fn nm (.slice Ap np kp) ty ys vb) (w4.setCell ⟨wr.heap.size,2,none⟩ (.slice Ap np kp))):=by have:=B4.out.put 2 (.slice Ap np kp); rwa [deA_2 hys1] at this
       have U5:Hid (Sl (vp (fz (wr.heap.size + 1) (w4.setCell ⟨wr.heap.size,2,none⟩ (.slice Ap np kp))) (w4.setCell ⟨wr.heap.size,2,none⟩ (.slice Ap np kp))) (.slice Ap np kp) ps 4):=by
        rw [hz3] at hup
        exact hup.fk (far_set (.slice Ap np kp) (Nat.lt_succ_self _)) (Nat.le_refl _)
       have hz5:wr.heap.size + 1 ≤ (w4.setCell ⟨wr.heap.size,2,none⟩ (.slice Ap np kp)).heap.size:=by rw [setCell_sz]; omega)
    | ((with_reducible show wpList _ _ _ (Oper.mk (some 17) (.load 36 (.tmp 16)) _ _ _ _ :: _) _ _)
       refine nmW fun wq hwq=>?_
       rw [hwq] at B5 U5 hz5
       clear hwq q2 q2' qf hl4 B3 B4 hup
       refine wpList_load_mid rfl _ _ rfl wr.heap.size 8 rfl ys.toList _ (fun j v hv=>(B5.out.box.cell (8 + j)).trans (deA_getE j v hv)) Tryz.underlying36 rfl (by rw [Array.length_toList,hys1]; exact HX.out) ?_; rw [Array.toArray_toList])
    | (go_at_call 38; refine (IX.out val hz1.2.1 Hys.out.2 wq ys p (fun b hb=>Nat.lt_of_lt_of_le (HP.out b hb) (K.out.ext.trans B5.out.ext).size) (Hys.out.mono (vp_ext B5.out.ext))).mono ?_; rintro e w5 ⟨zs,rfl,hzs,x5⟩
       have hzs1:zs.size=10:=hzs.size
       have B6:=Lib.hid (B5.out.to x5))
    | ((with_reducible show wpList _ _ _ (Oper.mk none (.store 36 (.tmp 19) _) _ _ _ _ :: _) _ _)
       refine wpList_store_mid rfl _ _ _ rfl wr.heap.size 8 zs rfl rfl (B6.out.there 8 zs.size (by rw [hzs1,deA_size hys1]; exact (by decide:8 + 10 ≤ 19))) (by rw [hzs1]; exact HX.out) (by have:=all_oneCell_toArray hzs.one; rwa [Array.toArray_toList] at this) ?_
       refine nmW fun w6 hw6=>?_
       have B7:Hid (CpB wr 38 (deA fn nm (.slice Ap np kp) ty zs vb) w6):=by rw [← hw6,← deA_8 hys1 hzs1]; exact B6.out.sets zs.toList 8 _ _
       have U7:Hid (Sl (vp (fz (wr.heap.size + 1) w6) w6) (.slice Ap np kp) ps 4):=by rw [← hw6]; exact (U5.out.fx x5 (Nat.le_refl _)).fk (fun b hb _=>setCells_heap _ _ _ _ (by omega)) (Nat.le_refl _)
       have Z7:Hid (Nv (vp (fz (wr.heap.size + 1) w6) w6) 0 val zs):=by rw [← hw6]; exact (hzs.fk (lo':=wr.heap.size + 1) (fun _ _ _=>rfl) hz5).fk (fun b hb _=>setCells_heap _ _ _ _ (by omega)) (Nat.le_refl _)
       have hz7:wr.heap.size + 1 ≤ w6.heap.size:=by rw [← hw6,setCells_size]; have:=x5.size; omega
       have q18:w6.cell? ⟨wr.heap.size,18,none⟩=some vb:=(B7.out.box.cell 18).trans (deA_get18 hzs1)
       clear hw6 U5 B5 B6 hzs)
    | (go_at_call 39; refine (IB.out b hz1.2.2.1 w6 vb p (fun b hb=>Nat.lt_of_lt_of_le (HP.out b hb) (K.out.ext.trans B7.out.ext).size) (Hb.out.mono (vp_ext B7.out.ext))).mono ?_; rintro e w7 ⟨ub,rfl,hub,x7⟩
       obtain ⟨Ab,nb,kb,rfl,_⟩:=Sl.shape hub
       have B8:=Lib.hid (B7.out.to x7)
       have q18':w7.cell? ⟨wr.heap.size,18,none⟩=some vb:=(B8.out.box.cell 18).trans (deA_get18 hzs1)
       have qf8:=B8.out.box.frozen
       have hl8:=B8.out.box.lt
       have B9:Hid (CpB wr 38 (deA fn nm (.slice Ap np kp) ty zs (.slice Ab nb kb)) (w7.setCell ⟨wr.heap.size,18,none⟩ (.slice Ab nb kb))):=by have:=B8.out.put 18 (.slice Ab nb kb); rwa [deA_18 hzs1] at this
       have N9:Hid (Nv (vp (fz (wr.heap.size + 1) (w7.setCell ⟨wr.heap.size,18,none⟩ (.slice Ab nb kb))) (w7.setCell ⟨wr.heap.size,18,none⟩ (.slice Ab nb kb))) 5 (.de fn nm ps ty val b .nil) (deA fn nm (.slice Ap np kp) ty zs (.slice Ab nb kb))) :=
        nv_de ((U7.out.fx x7 (Nat.le_refl _)).fk (far_set (.slice Ab nb kb) (Nat.lt_succ_self _)) (Nat.le_refl _)) ((Z7.out.fx x7 (Nat.le_refl _)).fk (far_set (.slice Ab nb kb) (Nat.lt_succ_self _)) (Nat.le_refl _)) ((hub.fk (lo':=wr.heap.size + 1) (fun _ _ _=>rfl) hz7).fk (far_set (.slice Ab nb kb) (Nat.lt_succ_self _)) (Nat.le_refl _))
       have HS9:Hid ((deA fn nm (.slice Ap np kp) ty zs (.slice Ab nb kb)).size=19):=deA_size hzs1)
    | ((with_reducible show wpList _ _ _ (Oper.mk (some 25) (.load 38 (.tmp 5)) _ _ _ _ :: _) _ _)
       refine nmW fun wt hwt=>?_
       rw [hwt] at B9 N9
       clear hwt q18 q18' qf8 hl8 B7 B8 U7 Z7 hub
       refine wpList_ldb rfl _ _ rfl wr.heap.size 38 (deA fn nm (.slice Ap np kp) ty zs (.slice Ab nb kb)) rfl B9.out.box _ Tryz.underlying38 rfl (by rw [HS9.out]; exact HZ.out) ?_)
    | ((with_reducible show wpList _ _ _ (Oper.mk (some 26) (.buildSlice _ _ _) _ _ _ _ :: _) _ _); refine wpList_bsD rfl _ rfl (deA fn nm (.slice Ap np kp) ty zs (.slice Ab nb kb)) rfl HS9.out ?_)
    | ((with_reducible show wpList _ _ _ (Oper.mk (some 27) (.call _) _ _ _ _ :: _) _ _)
       have C4:=Lib.hid (K.out.to (B9.out.ext.alloc (.cells (deA fn nm (.slice Ap np kp) ty zs (.slice Ab nb kb)) 38)))
       obtain ⟨us,o1,o3⟩:=C4.out.gz
       refine wpList_app1 Tryz.underlying23 infoDz rfl (by decide) (by decide) rfl _ _ rfl w.heap.size _ acc.len us rfl o1 _ _ (deA fn nm (.slice Ap np kp) ty zs (.slice Ab nb kb)) rfl (Blk.new _ _ _) HS9.out N9.out.one hal C4.out.ext.size ?_
       intro v' w' r1 r2 r3))
   go_roundw
   case rel=>exact ⟨i + 1,tl,acc.app (.de fn nm ps ty val b .nil),by first | rfl | (rw [hwi]; rfl),C4.out.put hlt HP.out o1 o3 (N9.out.fx ((Ext.refl _).alloc _) (Nat.le_refl _)) (Nat.le_succ_of_le K.out.ext.size) (fun g hg=>Nat.lt_succ_of_lt (K.out.gz.own_lt hg).2) r1 r2 r3,hz1.2.2.2⟩
   case measure=>(try rw [hwi]); rw [iof_succ,iof_nat]; exact Nat.sub_lt_sub_left hlt (Nat.lt_succ_self i)
  ·obtain rfl:=K.out.L.fin hlt
   have hltI:¬ (i:Int) < (N:Int):=by omega
   go_wp2_with fail
   go_ret
   exact ⟨_,rfl,K.out.fin,K.out.ext⟩
end Go.Proofs.YtmmnhbhnjiajhaaGreatDoor.c
