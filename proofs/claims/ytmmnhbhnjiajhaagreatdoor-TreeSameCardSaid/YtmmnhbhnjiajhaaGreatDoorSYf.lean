/- slices.Clone of parameters; tree.Copy: the same program in new memory that may be written. Condition: what is copied lies in elder memory. The reference's size of a program, whether it is too large. No condition. TreeSame: which programs are equal, and that a copy is. Condition: the package's variables lie as they do at the start; lists are no longer than memory reaches. -/
import Derived.Test.YtmmnhbhnjiajhaaGreatDoorSYe
import Derived.Test.YtmmnhbhnjiajhaaGreatDoorSUt
import Derived.Lib.LazyBuf
import Derived.Test.YtmmnhbhnjiajhaaGreatDoorSXi
import Derived.Test.YtmmnhbhnjiajhaaGreatDoorSXe
import Derived.Test.YtmmnhbhnjiajhaaGreatDoorSZc
import Derived.Test.YtmmnhbhnjiajhaaGreatDoorSArgsG
namespace Go.Proofs.YtmmnhbhnjiajhaaGreatDoor.c
open Go.RowKit
set_option linter.unusedVariables false
set_option maxRecDepth 100000
set_option maxHeartbeats 6400000
set_option linter.unusedSimpArgs false
theorem Elems.any4 {V V':Vw}:∀ (x:Nd) (xs:List Value),Elems V x 4 xs → Elems V' x 4 xs
 | .nil,_,e=>e
 | .ex ..,_,⟨hk,_⟩=>absurd hk (by decide)
 | .st ..,_,⟨hk,_⟩=>absurd hk (by decide)
 | .bl ..,_,⟨hk,_⟩=>absurd hk (by decide)
 | .ca ..,_,⟨hk,_⟩=>absurd hk (by decide)
 | .pa nm ty kn tl,xs,⟨hk,r,e,h3⟩=>⟨hk,r,e,Elems.any4 tl r h3⟩
 | .de ..,_,⟨hk,_⟩=>absurd hk (by decide)
theorem clone_any (x:Nd) (hx:LW x) (w:World) (v:Value) (p:Nat → Prop) (hsl:Sl (vp p w) v x 4):Calls Tryz.prog 37 #[v] w fun e w'=>∃ u,e=.returned u∧Sl (vp (fz w.heap.size w') w') u x 4∧Ext w w':=by
 have hby:x.len * 64 ≤ 140737488355328:=hsl.bytes hx
 clear hx
 obtain ⟨A,c,xs,rfl,hr,he⟩:=hsl
 have hlen:=Elems.length x 4 xs he
 have h1:=Elems.ones x 4 xs he
 have q30:∀ (w:World) (a:Option Addr) (n c:Nat),(binOp .eql 30 (.slice a n c) (.slice none 0 0)).run Tryz.prog w=.ok (.bool a.isNone) w:=fun w a n c=>Lib.run_eql_slice_nil w _ _ a n c 0 0 Tryz.underlying30
 cases A with
 | none =>
  have h0:xs=[]:=by
   rcases xs with _ | ⟨y,ys⟩
   ·rfl
   ·obtain ⟨b,o,e,_⟩:=hr (by simp)
    cases e
  subst h0
  have hn:x.len=0:=by
   have:x.len * 7=0:=by simpa [szK] using hlen.symm
   omega
  clear hr hlen
  generalize hN:x.len=N at *
  subst hn
  go_enter Tryz.func37,Tryz.ntmps37
  go_wp2_with fail
  go_ret
  exact ⟨.slice none 0 0,rfl,⟨none,0,[],by rw [hN],fun h=>absurd rfl h,Elems.any4 x [] he⟩,Ext.refl _⟩
 | some ad =>
  have hc:∀ j u,xs[j]?=some u → w.cell? (ad.add j)=some u:=fun j u hj=>by
   obtain ⟨b,o,e,hcell⟩:=hr (by rintro rfl; simp at hj)
   cases e
   rw [Addr.add_mid]
   exact (vp_some (hcell j u hj)).2
  obtain ⟨i0,hi0,hz0,hz1,hz2⟩:=info_parts infoPa
  have HA:Hid (∀ j u,xs[j]?=some u → w.cell? (ad.add j)=some u):=hc
  have HE:=Lib.hid he
  have HL:Hid (xs.length=x.len * 7):=hlen
  have H1:=Lib.hid h1
  have HI:=Lib.hid (And.intro hi0 (And.intro hz0 (And.intro hz1 hz2)))
  clear hr hlen hc h1 he hi0 hz0 hz1 hz2
  generalize hN:x.len=N at *
  have HN:=Lib.hid hN
  clear hN
  go_enter Tryz.func37,Tryz.ntmps37
  go_wp2_with (at_builtin; refine wpList_append_own _ rfl _ _ 30 rfl w.heap.size 40 i0 _ 7 64 Tryz.underlying30 HI.out.1 HI.out.2.1 HI.out.2.2.1 HI.out.2.2.2 rfl (by decide) _ 0 [] rfl (World.ownsRow_made w #[] 0 (Nat.le_refl _) (Nat.zero_le _) rfl) ad N c xs rfl HL.out ?qc2 H1.out ?qc4 ?qc5 ?qc6 ?_)
  case qc2 =>
   intro j u hj
   exact Lib.cell?_alloc_some _ (HA.out j u hj)
  case qc4=>unfold maxLen; omega
  case qc5=>omega
  case qc6=>simp
  intro v' w1 hown hgrow hnil
  go_wp2_with fail
  go_ret
  refine ⟨v',rfl,?_,((Ext.refl w).alloc _).grown hgrow (fun k hk=>by simp [Value.ownBlock] at hk; omega)⟩
  refine Sl.own hown (Elems.any4 x xs HE.out) (fun g hg=>?_) HN.out.symm
  rcases hown.2 with ⟨rfl,_⟩ | ⟨g',cap,cur,rfl,hb,hg',_⟩
  ·cases hg
  ·cases hg; exact ⟨hb,_,cur,hg'⟩
theorem deA_2 {fn:Bool} {nm:ByteArray} {ps u:Value} {ty:Ty} {ex:Array Value} {body:Value} (h:ex.size=10):(deA fn nm ps ty ex body).setIfInBounds 2 u=deA fn nm u ty ex body:=by
 obtain ⟨a,b,c,d,e,f,g,i,j,k,rfl⟩:=arr10 h
 kernel_rfl
theorem deA_18 {fn:Bool} {nm:ByteArray} {ps u:Value} {ty:Ty} {ex:Array Value} {body:Value} (h:ex.size=10):(deA fn nm ps ty ex body).setIfInBounds 18 u=deA fn nm ps ty ex u:=by
 obtain ⟨a,b,c,d,e,f,g,i,j,k,rfl⟩:=arr10 h
 kernel_rfl
theorem deA_8 {fn:Bool} {nm:ByteArray} {ps:Value} {ty:Ty} {ex cs:Array Value} {body:Value} (h:ex.size=10) (h2:cs.size=10):putA (deA fn nm ps ty ex body) 8 cs.toList=deA fn nm ps ty cs body:=by
 obtain ⟨a,b,c,d,e,f,g,i,j,k,rfl⟩:=arr10 h
 obtain ⟨a,b,c,d,e,f,g,i,j,k,rfl⟩:=arr10 h2
 kernel_rfl
theorem deA_get2 {fn:Bool} {nm:ByteArray} {ps:Value} {ty:Ty} {ex:Array Value} {body:Value} (h:ex.size=10):(deA fn nm ps ty ex body)[2]?=some ps:=by
 obtain ⟨a,b,c,d,e,f,g,i,j,k,rfl⟩:=arr10 h
 rfl
theorem deA_get18 {fn:Bool} {nm:ByteArray} {ps:Value} {ty:Ty} {ex:Array Value} {body:Value} (h:ex.size=10):(deA fn nm ps ty ex body)[18]?=some body:=by
 obtain ⟨a,b,c,d,e,f,g,i,j,k,rfl⟩:=arr10 h
 rfl
theorem deA_getE {fn:Bool} {nm:ByteArray} {ps:Value} {ty:Ty} {ex:Array Value} {body:Value} (j:Nat) (v:Value) (h:ex.toList[j]?=some v):(deA fn nm ps ty ex body)[8 + j]?=some v:=by
 have hj:j < ex.size:=by simpa using (List.getElem?_eq_some_iff.1 h).1
 have h8:(#[.bool fn,.string nm,ps,.int .i64 ty.base,.int .i64 ty.bits,.string ty.name,.bool ty.opt,.bool ty.err]:Array Value).size=8:=rfl
 unfold deA
 rw [Array.getElem?_append_left (by rw [Array.size_append,h8]; omega),Array.getElem?_append_right (by rw [h8]; omega),h8,Nat.add_sub_cancel_left]
 simpa using h
theorem CpB.sets {w:World} {t:TypeId}:∀ (vs:List Value) (o:Nat) (cs:Array Value) (wr:World),CpB w t cs wr → CpB w t (putA cs o vs) (wr.setCells w.heap.size o vs)
 | [],_,_,_,h=>h
 | v :: r,o,cs,wr,h=>CpB.sets r (o + 1) _ _ (h.put o v)
theorem CpB.there {w wr:World} {t:TypeId} {cs:Array Value} (h:CpB w t cs wr) (o n:Nat) (ho:o + n ≤ cs.size):wr.there w.heap.size o n:=fun j hj=>⟨by rw [h.box.cell,Array.getElem?_eq_getElem (by omega)]; rfl,h.box.frozen _⟩
theorem setCells_size {g:Nat}:∀ (vs:List Value) (o:Nat) (w:World),(w.setCells g o vs).heap.size=w.heap.size
 | [],_,_=>rfl
 | v :: r,o,w=>(setCells_size r (o + 1) _).trans (setCell_sz ..)
theorem copy_any (x:Nd) (hlw:LW x) (w:World) (v:Value) (p:Nat → Prop) (hp:∀ b,p b → b < w.heap.size) (hsl:Sl (vp p w) v x 5):Calls Tryz.prog 14 #[v] w fun e w'=>∃ u,e=.returned u∧Sl (vp (fz w.heap.size w') w') u x 5∧Ext w w':=by
 have HZ:Hid ((Tryz.prog.info? 38).map (·.size)=some 19):=by unfold Hid; kernel_rfl
 have HX:Hid ((Tryz.prog.info? 36).map (·.size)=some 10):=by unfold Hid; kernel_rfl
 obtain ⟨ihX,_,ihB⟩:=cp_all (x.sz + 1)
 have IX:=Lib.hid ihX
 have IB:=Lib.hid ihB
 obtain ⟨A,c,rfl,la⟩:=hsl.lp
 have hby:x.len * 232 ≤ 140737488355328:=hsl.bytes hlw
 generalize hN:x.len=N at *
 have HLW:=Lib.hid hlw
 have C0:Hid (CpL p 38 5 w A N 0 x x sl0 .nil w):=CpL.init la
 have HP:=Lib.hid hp
 have HN:=Lib.hid hN
 clear la hsl hN hp ihX ihB hlw
 go_enter Tryz.func14,Tryz.ntmps14
 go_wp2_with fail
 go_loopw [3,8] (fun v u wr=>∃ (i:Nat) (r acc:Nd),u=.int .i64 i∧Hid (CpL p 38 5 w A N i x r v acc wr)∧r.sz ≤ x.sz) (fun _ u _=>N - (intOf u).toNat)
 case atStart=>exact ⟨0,x,.nil,rfl,C0,Nat.le_refl _⟩
 case round =>
  clear C0
  obtain ⟨i,r,acc,rfl,K,hrz⟩:=hrel
  by_cases hlt:i < N
  ·have hrl:0 < r.len:=by have:=K.out.L.1; omega
   obtain ⟨fn,nm,ps,ty,val,b,tl,rfl⟩:∃ fn nm ps ty val b r',r=.de fn nm ps ty val b r':=by
    obtain ⟨_,xs,_,_,he⟩:=K.out.L
    exact he.de1 hrl
   obtain ⟨bb,o,ds,hA,hnv,hc,_⟩:=K.out.L.step hlt
   obtain ⟨vps,ys,vb,hds,hps,hys,hb⟩:=nv_deI hnv
   obtain rfl:ds=deA fn nm vps ty ys vb:=hds
   have hltI:(i:Int) < (N:Int):=by omega
   have hwi:wrap64 ((i:Int) + 1)=(i:Int) + 1:=IntWalk.wrap64_in _ (by omega)
   have hz1:val.sz < x.sz + 1∧b.sz < x.sz + 1∧tl.sz ≤ x.sz:=by simp only [Nd.sz] at hrz; omega
   have hal:(acc.len + 1) * 232 ≤ 140737488355328:=by have:=K.out.room hlt; have:=HN.out; omega
   have hlr:=K.out.lw HLW.out
   have HLP:=Lib.hid (show LW ps from hlr.2.1)
   have HLV:=Lib.hid (show LW val from hlr.2.2.1)
   have HLB:=Lib.hid (show LW b from hlr.2.2.2.1)
   clear hlr
   have hys1:ys.size=10:=hys.size
   have NV:=Lib.hid hnv
   have HC:=Lib.hid hc
   have Hps:=Lib.hid hps
   have Hys:=Lib.hid hys
   have Hb:=Lib.hid hb
   have HS:Hid ((deA fn nm vps ty ys vb).size=19):=deA_size hys1
   subst hA
   clear hnv hc hrz hps hys hb
   go_wp2_with (first
    | ((with_reducible show wpList _ _ _ (Oper.mk (some 11) (.load 38 (.tmp 10)) _ _ _ _ :: _) _ _); refine wpList_load_mid rfl _ _ rfl _ _ rfl (deA fn nm vps ty ys vb).toList _ (fun j v hv=>(vp_some (HC.out j v hv)).2) Tryz.underlying38 rfl (by rw [Array.length_toList,HS.out]; exact HZ.out) ?_; rw [Array.toArray_toList])
    | ((with_reducible show wpList _ _ _ (Oper.mk none (.store 38 (.tmp 5) _) _ _ _ _ :: _) _ _); refine wpList_store_row rfl _ _ _ rfl wr.heap.size rfl 38 zDe (deA fn nm vps ty ys vb) (Blk.new wr _ zDe) rfl (HS.out.trans zDe_size.symm) NV.out.one (by rw [HS.out]; exact HZ.out) ?_; refine nmW fun w3 hw3=>?_
       have B3:Hid (CpB wr 38 (deA fn nm vps ty ys vb) w3):=by rw [← hw3]; exact CpB.new wr _ zDe _
       have hz3:w3.heap.size=wr.heap.size + 1:=by rw [← hw3]; simp
       have q2:w3.cell? ⟨wr.heap.size,2,none⟩=some vps:=(B3.out.box.cell 2).trans (deA_get2 hys1)
       clear hw3)
    | (go_at_call 37; refine (clone_any ps HLP.out _ vps p (Hps.out.mono (vp_ext B3.out.ext))).mono ?_; rintro e w4 ⟨up,rfl,hup,x4⟩
       obtain ⟨Ap,np,kp,rfl,_⟩:=Sl.shape hup
       have B4:=Lib.hid (B3.out.to x4)
       have q2':w4.cell? ⟨wr.heap.size,2,none⟩=some vps:=(B4.out.box.cell 2).trans (deA_get2 hys1)
       have qf:=B4.out.box.frozen
       have hl4:=B4.out.box.lt
       have B5:Hid (CpB wr 38 (deA fn nm (.slice Ap np kp) ty ys vb) (w4.setCell ⟨wr.heap.size,2,none⟩ (.slice Ap np kp))):=by have:=B4.out.put 2 (.slice Ap np kp); rwa [deA_2 hys1] at this
       have U5:Hid (Sl (vp (fz (wr.heap.size + 1) (w4.setCell ⟨wr.heap.size,2,none⟩ (.slice Ap np kp))) (w4.setCell ⟨wr.heap.size,2,none⟩ (.slice Ap np kp))) (.slice Ap np kp) ps 4):=by
        rw [hz3] at hup
        exact hup.fk (far_set (.slice Ap np kp) (Nat.lt_succ_self _)) (Nat.le_refl _)
       have hz5:wr.heap.size + 1 ≤ (w4.setCell ⟨wr.heap.size,2,none⟩ (.slice Ap np kp)).heap.size:=by rw [setCell_sz]; omega)
    | ((with_reducible show wpList _ _ _ (Oper.mk (some 17) (.load 36 (.tmp 16)) _ _ _ _ :: _) _ _)
       refine nmW fun wq hwq=>?_
       rw [hwq] at B5 U5 hz5
       clear hwq q2 q2' qf hl4 B3 B4 hup
       refine wpList_load_mid rfl _ _ rfl wr.heap.size 8 rfl ys.toList _ (fun j v hv=>(B5.out.box.cell (8 + j)).trans (deA_getE j v hv)) Tryz.underlying36 rfl (by rw [Array.length_toList,hys1]; exact HX.out) ?_; rw [Array.toArray_toList])
    | (go_at_call 38; refine (IX.out val hz1.1 Hys.out.2 HLV.out wq ys p (fun b hb=>Nat.lt_of_lt_of_le (HP.out b hb) (K.out.ext.trans B5.out.ext).size) (Hys.out.mono (vp_ext B5.out.ext))).mono ?_; rintro e w5 ⟨zs,rfl,hzs,x5⟩
       have hzs1:zs.size=10:=hzs.size
       have B6:=Lib.hid (B5.out.to x5))
    | ((with_reducible show wpList _ _ _ (Oper.mk none (.store 36 (.tmp 19) _) _ _ _ _ :: _) _ _)
       refine wpList_store_mid rfl _ _ _ rfl wr.heap.size 8 zs rfl rfl (B6.out.there 8 zs.size (by rw [hzs1,deA_size hys1]; exact (by decide:8 + 10 ≤ 19))) (by rw [hzs1]; exact HX.out) (by have:=all_oneCell_toArray hzs.one; rwa [Array.toArray_toList] at this) ?_
       refine nmW fun w6 hw6=>?_
       have B7:Hid (CpB wr 38 (deA fn nm (.slice Ap np kp) ty zs vb) w6):=by rw [← hw6,← deA_8 hys1 hzs1]; exact B6.out.sets zs.toList 8 _ _
       have U7:Hid (Sl (vp (fz (wr.heap.size + 1) w6) w6) (.slice Ap np kp) ps 4):=by rw [← hw6]; exact (U5.out.fx x5 (Nat.le_refl _)).fk (fun b hb _=>setCells_heap _ _ _ _ (by omega)) (Nat.le_refl _)
       have Z7:Hid (Nv (vp (fz (wr.heap.size + 1) w6) w6) 0 val zs):=by rw [← hw6]; exact (hzs.fk (lo':=wr.heap.size + 1) (fun _ _ _=>rfl) hz5).fk (fun b hb _=>setCells_heap _ _ _ _ (by omega)) (Nat.le_refl _)
       have hz7:wr.heap.size + 1 ≤ w6.heap.size:=by rw [← hw6,setCells_size]; have:=x5.size; omega
       have q18:w6.cell? ⟨wr.heap.size,18,none⟩=some vb:=(B7.out.box.cell 18).trans (deA_get18 hzs1)
       clear hw6 U5 B5 B6 hzs)
    | (go_at_call 39; refine (IB.out b hz1.2.1 HLB.out w6 vb p (fun b hb=>Nat.lt_of_lt_of_le (HP.out b hb) (K.out.ext.trans B7.out.ext).size) (Hb.out.mono (vp_ext B7.out.ext))).mono ?_; rintro e w7 ⟨ub,rfl,hub,x7⟩
       obtain ⟨Ab,nb,kb,rfl,_⟩:=Sl.shape hub
       have B8:=Lib.hid (B7.out.to x7)
       have q18':w7.cell? ⟨wr.heap.size,18,none⟩=some vb:=(B8.out.box.cell 18).trans (deA_get18 hzs1)
       have qf8:=B8.out.box.frozen
       have hl8:=B8.out.box.lt
       have B9:Hid (CpB wr 38 (deA fn nm (.slice Ap np kp) ty zs (.slice Ab nb kb)) (w7.setCell ⟨wr.heap.size,18,none⟩ (.slice Ab nb kb))):=by have:=B8.out.put 18 (.slice Ab nb kb); rwa [deA_18 hzs1] at this
       have N9:Hid (Nv (vp (fz (wr.heap.size + 1) (w7.setCell ⟨wr.heap.size,18,none⟩ (.slice Ab nb kb))) (w7.setCell ⟨wr.heap.size,18,none⟩ (.slice Ab nb kb))) 5 (.de fn nm ps ty val b .nil) (deA fn nm (.slice Ap np kp) ty zs (.slice Ab nb kb))) :=
        nv_de ((U7.out.fx x7 (Nat.le_refl _)).fk (far_set (.slice Ab nb kb) (Nat.lt_succ_self _)) (Nat.le_refl _)) ((Z7.out.fx x7 (Nat.le_refl _)).fk (far_set (.slice Ab nb kb) (Nat.lt_succ_self _)) (Nat.le_refl _)) ((hub.fk (lo':=wr.heap.size + 1) (fun _ _ _=>rfl) hz7).fk (far_set (.slice Ab nb kb) (Nat.lt_succ_self _)) (Nat.le_refl _))
       have HS9:Hid ((deA fn nm (.slice Ap np kp) ty zs (.slice Ab nb kb)).size=19):=deA_size hzs1)
    | ((with_reducible show wpList _ _ _ (Oper.mk (some 25) (.load 38 (.tmp 5)) _ _ _ _ :: _) _ _)
       refine nmW fun wt hwt=>?_
       rw [hwt] at B9 N9
       clear hwt q18 q18' qf8 hl8 B7 B8 U7 Z7 hub
       refine wpList_ldb rfl _ _ rfl wr.heap.size 38 (deA fn nm (.slice Ap np kp) ty zs (.slice Ab nb kb)) rfl B9.out.box _ Tryz.underlying38 rfl (by rw [HS9.out]; exact HZ.out) ?_)
    | ((with_reducible show wpList _ _ _ (Oper.mk (some 26) (.buildSlice _ _ _) _ _ _ _ :: _) _ _); refine wpList_bsD rfl _ rfl (deA fn nm (.slice Ap np kp) ty zs (.slice Ab nb kb)) rfl HS9.out ?_)
    | ((with_reducible show wpList _ _ _ (Oper.mk (some 27) (.call _) _ _ _ _ :: _) _ _)
       have C4:=Lib.hid (K.out.to (B9.out.ext.alloc (.cells (deA fn nm (.slice Ap np kp) ty zs (.slice Ab nb kb)) 38)))
       obtain ⟨us,o1,o3⟩:=C4.out.gz
       refine wpList_app2 Tryz.underlying23 infoDz rfl (by decide) (by decide) rfl _ _ rfl w.heap.size _ acc.len us rfl o1 _ _ (deA fn nm (.slice Ap np kp) ty zs (.slice Ab nb kb)) rfl (Blk.new _ _ _) HS9.out N9.out.one hal C4.out.ext.size ?_
       intro v' w' r1 r2 r3))
   go_roundw
   case rel=>exact ⟨i + 1,tl,acc.app (.de fn nm ps ty val b .nil),by first | rfl | (rw [hwi]; rfl),C4.out.put hlt HP.out o1 o3 (N9.out.fx ((Ext.refl _).alloc _) (Nat.le_refl _)) (Nat.le_succ_of_le K.out.ext.size) (fun g hg=>Nat.lt_succ_of_lt (K.out.gz.own_lt hg).2) r1 r2 r3,hz1.2.2⟩
   case measure=>(try rw [hwi]); rw [iof_succ,iof_nat]; exact Nat.sub_lt_sub_left hlt (Nat.lt_succ_self i)
  ·obtain rfl:=K.out.L.fin hlt
   have hltI:¬ (i:Int) < (N:Int):=by omega
   go_wp2_with fail
   go_ret
   exact ⟨_,rfl,K.out.fin,K.out.ext⟩
def szP:Nd → Sz → Sz
 | .de f n ps t v b tl,o=>szP tl (plS o (dcX (.de f n ps t v b .nil)))
 | _,o=>o
theorem sizeOf_any (x:Nd) (hsz:LW x) (w:World) (v:Value) (p:Nat → Prop) (hsl:Sl (vp p w) v x 5):Calls Tryz.prog 43 #[v] w fun e w'=>e=.returned (.agg #[.int .i64 (szP x sz0).s,.int .i64 (szP x sz0).e,.int .i64 (szP x sz0).d,.bool (szP x sz0).m])∧Ext w w':=by
 have HZ:Hid ((Tryz.prog.info? 88).map (·.size)=some 4):=by unfold Hid; kernel_rfl
 have HZD:Hid ((Tryz.prog.info? 38).map (·.size)=some 19):=by unfold Hid; kernel_rfl
 obtain ⟨A,c,rfl,la⟩:=hsl.lp
 have hxl:=hsz.len
 have HLW:=Lib.hid hsz
 obtain ⟨R,hR⟩:∃ R,szP x sz0=R:=⟨_,rfl⟩
 rw [hR]
 generalize hN:x.len=N at *
 have hN1:N ≤ 4611686018427387904:=by omega
 have L0:=Lib.hid la
 have E0:=Lib.hid hR
 have X0:Hid (Ext w ((w.alloc (.cells (szC sz0) 88)).alloc (.cells (szC sz0) 88))):=((Ext.refl w).alloc _).alloc _
 have K2:Hid (Blk ((w.alloc (.cells (szC sz0) 88)).alloc (.cells (szC sz0) 88)) w.heap.size 88 (szC sz0)):=(Blk.new w _ _).alloc _
 have K3:Hid (Blk ((w.alloc (.cells (szC sz0) 88)).alloc (.cells (szC sz0) 88)) (w.heap.size + 1) 88 (szC sz0)):=blk_new2 _ _ _ _
 have hg:w.heap.size ≠ w.heap.size + 1:=by omega
 have hgw:w.heap.size ≤ w.heap.size + 1:=by omega
 clear la hsl hR hN hxl hsz
 unfold szC sz0 at X0 K2 K3
 go_enter Tryz.func43,Tryz.ntmps43
 go_upto_region 3 with fail
 refine nmW fun w0 hw0=>?_
 rw [hw0] at X0 K2 K3
 clear hw0
 generalize w.heap.size + 1=g3 at *
 generalize hg2:w.heap.size=g2 at K2 hg ⊢
 have hgx:w.heap.size ≤ g2:=Nat.le_of_eq hg2
 go_loopw [4] (fun u4 wr=>∃ (i:Nat) (r:Nd) (s:Sz),u4=.int .i64 i∧Hid (Lp (vp p w) A N 5 i r)∧Hid (Ext w wr)∧Hid (Blk wr g2 88 #[.int .i64 sz0.s,.int .i64 sz0.e,.int .i64 sz0.d,.bool sz0.m])∧Hid (Blk wr g3 88 #[.int .i64 s.s,.int .i64 s.e,.int .i64 s.d,.bool s.m])∧Hid (szP r s=R)∧Hid (LW r)) (fun u4 _=>N - (intOf u4).toNat)
 case atStart=>exact ⟨0,x,sz0,rfl,L0,X0,K2,K3,E0,HLW⟩
 case round =>
  clear L0 X0 E0 K2 K3 HLW
  obtain ⟨i,r,s,rfl,L,X,K2,K3,hE,hlr⟩:=hrel
  by_cases hlt:i < N
  case neg =>
   obtain rfl:=L.out.fin hlt
   have hltI:¬ (i:Int) < (N:Int):=by omega
   obtain rfl:s=R:=hE.out
   have q0:wr.cell? ⟨g3,0,none⟩=some (.int .i64 s.s):=K3.out.cell 0; have q1:wr.cell? ⟨g3,1,none⟩=some (.int .i64 s.e):=K3.out.cell 1; have q2:wr.cell? ⟨g3,2,none⟩=some (.int .i64 s.d):=K3.out.cell 2; have q3:wr.cell? ⟨g3,3,none⟩=some (.bool s.m):=K3.out.cell 3
   go_wp2_with (first
    | ((with_reducible show wpList _ _ _ (Oper.mk none (.store 88 (.tmp 2) _) _ _ _ _ :: _) _ _); refine wpList_store_row rfl _ _ _ rfl g2 rfl 88 #[.int .i64 sz0.s,.int .i64 sz0.e,.int .i64 sz0.d,.bool sz0.m] #[.int .i64 s.s,.int .i64 s.e,.int .i64 s.d,.bool s.m] K2.out rfl rfl (szC_one s) HZ.out ?_))
   exact bodyPost_ret (results_cell_row rfl _ _ g2 88 #[.int .i64 s.s,.int .i64 s.e,.int .i64 s.d,.bool s.m] (0,0) _ rfl (K2.out.row _) Tryz.underlying88 rfl HZ.out) rfl ⟨rfl,X.out.setRow hgx _⟩
  have hltI:(i:Int) < (N:Int):=by omega
  have hwi:wrap64 ((i:Int) + 1)=(i:Int) + 1:=IntWalk.wrap64_in _ (by omega)
  obtain ⟨f1,n1,p1,t1,v1,b1,r1,rfl⟩:=L.out.de1 hlt
  obtain ⟨bb,oo,cs,rfl,hnx,hcx,L'⟩:=L.out.step hlt
  have HL1:Hid (LW r1):=hlr.out.tl
  have HD:Hid (∀ w1,Ext w w1 → Calls Tryz.prog 54 #[.agg cs] w1 fun e w'=>e=.returned (.agg #[.int .i64 (dcX (.de f1 n1 p1 t1 v1 b1 .nil)).s,.int .i64 (dcX (.de f1 n1 p1 t1 v1 b1 .nil)).e,.int .i64 (dcX (.de f1 n1 p1 t1 v1 b1 .nil)).d,.bool (dcX (.de f1 n1 p1 t1 v1 b1 .nil)).m])∧Ext w1 w'):=fun w1 X=>ofDecl_any _ hlr.out.hd w1 cs p (hnx.mono (vp_ext X))
  have LS:Hid (Lp (vp p w) (some ⟨bb,oo,none⟩) N 5 (i + 1) r1):=L'
  have E1:Hid (szP r1 (plS s (dcX (.de f1 n1 p1 t1 v1 b1 .nil)))=R):=hE.out
  have hcs:cs.size=19:=hnx.size
  have HCX:Hid (∀ (j:Nat) (v:Value),cs.toList[j]?=some v → vp p w bb (oo + i * 19 + j)=some v):=hcx
  generalize dcX (.de f1 n1 p1 t1 v1 b1 .nil)=sd at HD E1
  clear hnx hcx L' L hE hlr
  go_upto_region 5 with fail
  refine eh_begin #[false,false,false,false,false,false,false,false] (fun w'=>Ext w w') rfl (by kernel_rfl) (fun _ _ _ _ _ h=>h) (fun HQ=>?_)
  have hS0:Ext w wr.drew:=X.out.drew
  refine eh_take 1 12 rfl HQ hS0 (by intro w1 hX; go_simp; try with_reducible rfl) ?_
  simp only [putL,List.set]
  refine eh_take 2 13 rfl HQ hS0 (by intro w1 hX; go_simp; try with_reducible rfl) ?_
  simp only [putL,List.set]
  refine eh_take 3 14 rfl HQ hS0 (by intro w1 hX; go_simp; try with_reducible rfl) ?_
  simp only [putL,List.set]
  refine eh_take 4 15 (v:=.agg cs) rfl HQ hS0 (fun w1 hX=>exec_ldr rfl rfl (fun j v hv=>row_at HCX.out hX hv) Tryz.underlying38 rfl (by rw [hcs]; exact HZD.out)) ?_
  simp only [putL,List.set]
  refine eh_br (l:=[0,5]) (by simp) ?_
  intro j hj
  simp only [List.mem_cons,List.not_mem_nil,or_false] at hj
  rcases hj with rfl | rfl
  ·refine o_val (w':=wr.drew) 0 11 rfl (v:=.agg #[.int .i64 s.s,.int .i64 s.e,.int .i64 s.d,.bool s.m]) (exec_ldr rfl rfl (((K3.out.drew)).range) Tryz.underlying88 rfl HZ.out) ?_
   refine ⟨hS0,?_⟩
   simp only [putL,List.set]
   refine eh_br (l:=[5]) (by simp) ?_
   intro j hj
   simp only [List.mem_cons,List.not_mem_nil,or_false] at hj
   subst hj
   refine o_call 5 rfl rfl (by go_simp) (HD.out _ (hS0)) ?_ ?_ ?_
   ·rintro rv wwa1 ⟨e0,xxa1⟩
    cases e0
    refine ⟨((hS0).trans xxa1),?_⟩
    show wpAnyH _ _ _ _ _ _ _ (Act.put _ (some 16) _) _
    simp only [putL,List.set]
    refine eh_br (l:=[6]) (by simp) ?_
    intro j hj
    simp only [List.mem_cons,List.not_mem_nil,or_false] at hj
    subst hj
    refine o_call 6 rfl rfl (by go_simp) (plus_any s sd _) ?_ ?_ ?_
    ·rintro rv wwp2 ⟨e0,xxp2⟩
     cases e0
     refine ⟨((((hS0).trans xxa1)).trans xxp2),?_⟩
     show wpAnyH _ _ _ _ _ _ _ (Act.put _ (some 17) _) _
     simp only [putL,List.set]
     refine eh_br (l:=[7]) (by simp) ?_
     intro j hj
     simp only [List.mem_cons,List.not_mem_nil,or_false] at hj
     subst hj
     refine o_wp 7 rfl rfl (wp_str _ _ _ rfl _ rfl _ #[.int .i64 s.s,.int .i64 s.e,.int .i64 s.d,.bool s.m] #[.int .i64 (plS s sd).s,.int .i64 (plS s sd).e,.int .i64 (plS s sd).d,.bool (plS s sd).m] ((((((K3.out.drew)).ext xxa1)).ext xxp2)) rfl rfl (szC_one (plS s sd)) HZ.out ?_)
     refine ⟨((((((hS0).trans xxa1)).trans xxp2)).setRow hgw _),?_⟩
     show wpAnyH _ _ _ _ _ _ _ _ _
     refine eh_end ?_
     go_wp2_with fail
     go_roundw
     case rel=>exact ⟨i + 1,r1,plS s sd,by first | rfl | (rw [hwi]; rfl),LS,((((((hS0).trans xxa1)).trans xxp2)).setRow hgw _),(setRow_other _ g3 g2 _ hg).trans ((((((K2.out.drew)).ext xxa1)).ext xxp2)),((((((K3.out.drew)).ext xxa1)).ext xxp2)).row _,E1,HL1⟩
     case measure=>(try rw [hwi]); rw [iof_succ,iof_nat]; exact Nat.sub_lt_sub_left hlt (Nat.lt_succ_self i)
    ·rintro cc wwp2 ⟨e0,_⟩; cases e0
    ·rintro wwp2 ⟨e0,_⟩; cases e0
   ·rintro cc wwa1 ⟨e0,_⟩; cases e0
   ·rintro wwa1 ⟨e0,_⟩; cases e0
  ·refine o_call 5 rfl rfl (by go_simp) (HD.out _ (hS0)) ?_ ?_ ?_
   ·rintro rv wwa3 ⟨e0,xxa3⟩
    cases e0
    refine ⟨((hS0).trans xxa3),?_⟩
    show wpAnyH _ _ _ _ _ _ _ (Act.put _ (some 16) _) _
    simp only [putL,List.set]
    refine eh_br (l:=[0]) (by simp) ?_
    intro j hj
    simp only [List.mem_cons,List.not_mem_nil,or_false] at hj
    subst hj
    refine o_val (w':=wwa3) 0 11 rfl (v:=.agg #[.int .i64 s.s,.int .i64 s.e,.int .i64 s.d,.bool s.m]) (exec_ldr rfl rfl (((((K3.out.drew)).ext xxa3)).range) Tryz.underlying88 rfl HZ.out) ?_
    refine ⟨((hS0).trans xxa3),?_⟩
    simp only [putL,List.set]
    refine eh_br (l:=[6]) (by simp) ?_
    intro j hj
    simp only [List.mem_cons,List.not_mem_nil,or_false] at hj
    subst hj
    refine o_call 6 rfl rfl (by go_simp) (plus_any s sd _) ?_ ?_ ?_
    ·rintro rv wwp4 ⟨e0,xxp4⟩
     cases e0
     refine ⟨((((hS0).trans xxa3)).trans xxp4),?_⟩
     show wpAnyH _ _ _ _ _ _ _ (Act.put _ (some 17) _) _
     simp only [putL,List.set]
     refine eh_br (l:=[7]) (by simp) ?_
     intro j hj
     simp only [List.mem_cons,List.not_mem_nil,or_false] at hj
     subst hj
     refine o_wp 7 rfl rfl (wp_str _ _ _ rfl _ rfl _ #[.int .i64 s.s,.int .i64 s.e,.int .i64 s.d,.bool s.m] #[.int .i64 (plS s sd).s,.int .i64 (plS s sd).e,.int .i64 (plS s sd).d,.bool (plS s sd).m] ((((((K3.out.drew)).ext xxa3)).ext xxp4)) rfl rfl (szC_one (plS s sd)) HZ.out ?_)
     refine ⟨((((((hS0).trans xxa3)).trans xxp4)).setRow hgw _),?_⟩
     show wpAnyH _ _ _ _ _ _ _ _ _
     refine eh_end ?_
     go_wp2_with fail
     go_roundw
     case rel=>exact ⟨i + 1,r1,plS s sd,by first | rfl | (rw [hwi]; rfl),LS,((((((hS0).trans xxa3)).trans xxp4)).setRow hgw _),(setRow_other _ g3 g2 _ hg).trans ((((((K2.out.drew)).ext xxa3)).ext xxp4)),((((((K3.out.drew)).ext xxa3)).ext xxp4)).row _,E1,HL1⟩
     case measure=>(try rw [hwi]); rw [iof_succ,iof_nat]; exact Nat.sub_lt_sub_left hlt (Nat.lt_succ_self i)
    ·rintro cc wwp4 ⟨e0,_⟩; cases e0
    ·rintro wwp4 ⟨e0,_⟩; cases e0
   ·rintro cc wwa3 ⟨e0,_⟩; cases e0
   ·rintro wwa3 ⟨e0,_⟩; cases e0
theorem over_any (x:Nd) (hlw:LW x) (w:World) (v:Value) (p:Nat → Prop) (hsl:Sl (vp p w) v x 5):Calls Tryz.prog 17 #[v] w fun e w'=>Hid (∃ b,e=.returned (.bool b)∧Ext w w'):=by
 have HZ:Hid ((Tryz.prog.info? 88).map (·.size)=some 4):=by unfold Hid; kernel_rfl
 have HS:=Lib.hid (sizeOf_any x hlw w v p hsl)
 obtain ⟨A,c,rfl,_⟩:=hsl.lp
 have hxl:=hlw.len
 generalize szP x sz0=z at HS
 obtain ⟨z1,z2,z3,z4⟩:=z
 simp only at HS
 generalize x.len=N at *
 clear hsl hlw
 go_enter Tryz.func17,Tryz.ntmps17
 go_wp2_with (first
  | (go_at_call 43; refine HS.out.mono ?_; rintro e w1 ⟨rfl,x1⟩))
 all_goals
  go_ret
  try unfold Hid
  first | exact x1.alloc _ | (refine ⟨_,rfl,?_⟩; exact x1.alloc _) | (refine ⟨?_,x1.alloc _⟩; cases z4 <;> simp <;> omega)
theorem tsame_any (x y:Nd) (hx:LW x) (hy:LW y) (w:World) (g:Laid w) (v u:Value) (hsx:Sl (V0 w) v x 5) (hsy:Sl (V0 w) u y 5):Calls Tryz.prog 6 #[v,u] w fun e w'=>e=.returned (.bool true)∧Ext w w':=by
 have HK:=Lib.hid fun w1 (X:Ext w w1)=>known_any w1 (g.ext X)
 have HO1:=Lib.hid fun w1 (X:Ext w w1)=>over_any x hx w1 v (fun b=>b < w.heap.size) (hsx.mono (vp_ext X))
 have HO2:=Lib.hid fun w1 (X:Ext w w1)=>over_any y hy w1 u (fun b=>b < w.heap.size) (hsy.mono (vp_ext X))
 have HP:=Lib.hid fun w1 (X:Ext w w1)=>psame_any x y hx w1 v u (fun b=>b < w.heap.size) (fun b=>b < w.heap.size) (hsx.mono (vp_ext X)) (hsy.mono (vp_ext X))
 have HR:=Lib.hid fun w1 (X:Ext w w1)=>same_any x y hx w1 v u (fun b=>b < w.heap.size) (fun b=>b < w.heap.size) (hsx.mono (vp_ext X)) (hsy.mono (vp_ext X))
 have HC:=Lib.hid fun w1 (X:Ext w w1)=>copy_any x hx w1 v (fun b=>b < w.heap.size) (fun b hb=>Nat.lt_of_lt_of_le hb X.size) (hsx.mono (vp_ext X))
 have HS:=Lib.hid fun (w1 w2:World) (z:Value) (X:Ext w w2) (hz:Sl (vp (fz w1.heap.size w2) w2) z x 5)=>same_any x x hx w2 z v (fz w1.heap.size w2) (fun b=>b < w.heap.size) hz (hsx.mono (vp_ext X))
 obtain ⟨A,c,rfl,_⟩:=hsx.lp
 obtain ⟨A',c',rfl,_⟩:=hsy.lp
 generalize eqN x y=R at HP HR
 clear hsx hsy g
 go_enter Tryz.func6,Tryz.ntmps6
 go_upto_region 1 with fail
 go_cut [10] from 5 to 10 (fun cc wx=>Hid (∃ b,cc=.bool b)∧Hid (Ext w wx))
 case first =>
  go_wp2_with (first
   | (go_at_call 17; refine (HO2.out _ x1).mono ?_; rintro e w2 hh; obtain ⟨b2,rfl,x2⟩:=hh.out; clear hh)
   | (go_at_call 17; refine (HO1.out _ (Ext.refl _)).mono ?_; rintro e w1 hh; obtain ⟨b1,rfl,x1⟩:=hh.out; clear hh; cases b1))
  all_goals
   go_meet
   exact ⟨Lib.hid ⟨_,rfl⟩,Lib.hid (by first | exact x1 | exact x1.trans x2)⟩
 case rest =>
  obtain ⟨hb,X⟩:=hcut
  obtain ⟨b,rfl⟩:=hb.out
  clear hb
  cases b
  ·go_wp2_with (first
    | (go_at_call 18; refine (HP.out _ X.out).mono ?_; rintro e w1 ⟨rfl,x1⟩)
    | (go_at_call 14; refine (HC.out _ ((X.out.trans x1).trans x2)).mono ?_; rintro e w3 ⟨z,rfl,hz,x3⟩; obtain ⟨Az,cz,rfl,_⟩:=hz.lp)
    | (go_at_call 13; refine (HS.out _ _ _ (((X.out.trans x1).trans x2).trans x3) hz).mono ?_; rw [eqN_self]; rintro e w4 ⟨rfl,x4⟩)
    | (go_at_call 13; refine (HR.out _ (X.out.trans x1)).mono ?_; rintro e w2 ⟨rfl,x2⟩)
    | (go_at_call 10; refine (HK.out _ ((((X.out.trans x1).trans x2).trans x3).trans x4)).mono ?_; rintro e w5 ⟨rfl,x5⟩))
   go_ret
   exact ⟨rfl,((((X.out.trans x1).trans x2).trans x3).trans x4).trans x5⟩
  ·go_wp2_with (first
    | (go_at_call 10; refine (HK.out _ X.out).mono ?_; rintro e w5 ⟨rfl,x5⟩))
   go_ret
   exact ⟨rfl,X.out.trans x5⟩
end Go.Proofs.YtmmnhbhnjiajhaaGreatDoor.c
