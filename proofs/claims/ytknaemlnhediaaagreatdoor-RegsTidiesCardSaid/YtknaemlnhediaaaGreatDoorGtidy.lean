/- Contract of the program's Tidy. The table strings.asciiSpace holds what its text lays; lengths are bounded. -/
import Derived.Test.YtknaemlnhediaaaGreatDoorRga
import Derived.Test.YtknaemlnhediaaaGreatDoorGlives
import Derived.Deep.LoopGhost
namespace Go.Proofs.YtknaemlnhediaaaGreatDoor.c
open Go.RowKit
set_option linter.unusedVariables false
set_option maxRecDepth 100000
set_option maxHeartbeats 12800000
set_option linter.unusedSimpArgs false
theorem GtSt.cells {w0 w:World} {G:Nat} {M:List Rf} (s:GtSt w0 w G M) {k:Nat} (hk:k < M.length) {f:Rf} (hf:f=M.getD k default) {n:Nat} (hn:n=f.code.length):G < w.heap.size∧w.cell? ⟨G,k * 9,none⟩=some (.string f.name)∧w.cell? ⟨G,k * 9 + 1,none⟩=some (.int .i64 f.params)∧w.cell? ⟨G,k * 9 + 2,none⟩=some (.int .i64 f.regs)∧w.cell? ⟨G,k * 9 + 3,none⟩=some (.int .i64 f.ty.base)∧w.cell? ⟨G,k * 9 + 4,none⟩=some (.int .i64 f.ty.bits)∧w.cell? ⟨G,k * 9 + 5,none⟩=some (.string f.ty.name)∧w.cell? ⟨G,k * 9 + 6,none⟩=some (.bool f.ty.opt)∧w.cell? ⟨G,k * 9 + 7,none⟩=some (.bool f.ty.err)∧w.cell? ⟨G,k * 9 + 8,none⟩=some (.slice f.A n f.cap):=by
 subst hf
 subst hn
 exact ⟨s.row.lt,s.row.cell hk (j:=0) (by decide),s.row.cell hk (j:=1) (by decide),s.row.cell hk (j:=2) (by decide),s.row.cell hk (j:=3) (by decide),s.row.cell hk (j:=4) (by decide),s.row.cell hk (j:=5) (by decide),s.row.cell hk (j:=6) (by decide),s.row.cell hk (j:=7) (by decide),s.row.cell hk (j:=8) (by decide)⟩
theorem few_args {l:List Rf} {f:Rf} (g:GoodF l f) (hp:∀ j,j < l.length → (l.getD j default).params ≤ 4) {x:Rg} (hx:x ∈ f.code):x.args.length ≤ 4:=by
 rcases Classical.em (x.op=14) with h | h
 ·obtain ⟨q,_,hq,he⟩:=(g.at_ hx).call h
  have:=hp q hq
  omega
 ·rw [g.noargs hx h]
  decide
theorem rm_eq2 {d:List Rg} {p:Nat} (hp:p < d.length):rmB d p=(((d.getD p default).op == 2 && (d.getD p default).d == (d.getD p default).a) || deadB d p):=by
 unfold rmB
 rw [decide_eq_true hp,Bool.true_and]
theorem gTidy_any (A:Option Addr) (cap:Nat) (l:List Rf) {len:Nat} (w:World) (g:Laid w) (hlen:len=l.length) (hA:RfAt w A l) (hl:len ≤ 9223372036854775806) (hc:len ≤ 48 → countR l ≤ 9223372036854775806) (hin:RgsIn l) :
  Calls Tryz.prog 54 #[.slice A len cap] w fun e w'=>∃ M A' c',e=.returned (.tuple #[.slice A' M.length c',.int .i64 (validR l)])∧RfAt w' A' M∧LikeR M (tidyR l)∧Ext w w':=by
 have HK:Hid (Calls Tryz.prog 24 #[.slice A len cap] w fun e w'=>e=.returned (.int .i64 (validR l))∧Ext w w'):=by
  have h:=gValidate_any A cap l w g hA (by omega) (fun h=>hc (by omega)) hin
  rwa [← hlen] at h
 have HA:=Lib.hid hA
 have HLn:=Lib.hid hlen
 clear hA hc hin hlen g
 by_cases h0:validR l=0
 ·obtain ⟨h48,_,hgood⟩:=validR_parts h0
  have HR:Hid (tidyR l=tidyL l):=by unfold Hid tidyR; rw [if_pos h0]
  have HV:Hid (validR l=0):=h0
  have hlen48:len ≤ 48:=by have:=HLn.out; omega
  have HCO:Hid (∀ w1,Ext w w1 → Calls Tryz.prog 113 #[.slice A len cap] w1 fun e w'=>∃ v M,e=.returned v∧M.length=l.length∧CpSt w1 w' v l M):=fun w1 x =>
   copied_any A cap l w1 HLn.out (HA.out.ext x) (by omega) (fun f hf=>by
    obtain ⟨j,hj,rfl⟩:=List.getElem_of_mem hf
    have e:l[j]=l.getD j default:=by rw [List.getD,List.getElem?_eq_getElem hj]; rfl
    rw [e]
    have gf:=(hgood j hj).1
    exact ⟨gf.pos,by have:=gf.few; omega⟩) (fun f hf x hx=>by
    obtain ⟨j,hj,rfl⟩:=List.getElem_of_mem hf
    have e:l[j]=l.getD j default:=by rw [List.getD,List.getElem?_eq_getElem hj]; rfl
    rw [e] at hx
    have:=few_args (hgood j hj).1 (fun q hq=>(hgood q hq).1.par.2) hx
    omega)
  rw [h0] at HK ⊢
  rw [HR.out]
  clear h0 h48 hgood HR
  by_cases hz:len=0
  ·have hl0:l=[]:=List.length_eq_zero_iff.1 (by have:=HLn.out; omega)
   have HT0:Hid (LikeR [] (tidyL l)):=by unfold Hid; rw [hl0]; rfl
   subst hz
   clear hl0
   go_enter Tryz.func54,Tryz.ntmps54
   go_wp2_with (first
    | (go_at_call 24; refine (HK.out).mono ?_; rintro r w1 ⟨rfl,x1⟩; have X1:=Lib.hid x1; clear x1)
    | (go_at_call 113
       refine (HCO.out _ X1.out).mono ?_
       rintro r w2 ⟨v,N,rfl,hN,st⟩
       obtain ⟨A7,c7,hv7,_⟩:=own_slice st.own
       rw [hN,← HLn.out] at hv7
       subst hv7
       have E2:=Lib.hid (X1.out.trans st.ext)
       clear st))
   go_loopw [20] (fun i wr=>i=.int .i64 0∧Ext w wr) (fun i _=>(intOf i).toNat)
   case atStart=>exact ⟨rfl,E2.out⟩
   case round =>
    obtain ⟨rfl,hx⟩:=hrel
    go_wp2_with fail
    go_ret2
    exact ⟨[],A7,c7,rfl,⟨At.nil _ _ _ _,fun f hf=>by cases hf⟩,HT0.out,hx⟩
  ·go_enter Tryz.func54,Tryz.ntmps54
   go_wp2_with (first
    | (go_at_call 24; refine (HK.out).mono ?_; rintro r w1 ⟨rfl,x1⟩; have X1:=Lib.hid x1; clear x1)
    | (go_at_call 113
       refine (HCO.out _ X1.out).mono ?_
       rintro r w2 ⟨v,N,rfl,hN,st⟩
       obtain ⟨G,cg,hv7,hG,hrow⟩:=own_rec st.own (by have:=HLn.out; omega)
       rw [hN,← HLn.out] at hv7
       subst hv7
       have GS0:Hid (GtSt w1 w2 G N):=⟨st.ext,hrow,hG,fun j hj=>let ⟨g,h1,_,h3⟩:=st.rows j hj; ⟨g,h1,h3⟩,fun j hj x hx=>st.args _ (by rw [List.getD,List.getElem?_eq_getElem hj]; exact List.getElem_mem hj) x hx⟩
       have HLK:Hid (LikeR N l):=likeR_mk hN (fun i hi=>st.like i hi)
       have HN:=Lib.hid hN
       clear st hrow hG hN))
   have HNV:Hid (validR N=0):=by unfold Hid; rw [validR_like HLK.out]; exact HV.out
   have HNL:Hid (N.length=len):=by unfold Hid; rw [HN.out]; exact HLn.out.symm
   have HNG:Hid (∀ j,j < len → GoodF N (N.getD j default)):=fun j hj=>((validR_parts HNV.out).2.2 j (by have:=HNL.out; omega)).1
   go_loopw [20] (fun i wr=>∃ (k:Nat) (M:List Rf),k ≤ len∧i=.int .i64 k∧GtSt w1 wr G M∧TdRel N M k) (fun i _=>len - (intOf i).toNat)
   case atStart=>exact ⟨0,N,Nat.zero_le _,rfl,GS0.out,TdRel.start N⟩
   case round =>
    clear GS0
    obtain ⟨k,M0,hk,rfl,st,rel⟩:=hrel
    have ST0:=Lib.hid st
    have RL0:=Lib.hid rel
    by_cases hlt:k < len
    ·have zG0:=st.row.lt
     clear st rel
     rename World=>wo
     go_wp2_with fail
     go_loopg [] ((M0.getD k default).code.length) (fun kk wq=>∃ M:List Rf,GtSt w1 wq G M∧TdRel N M k∧(M.getD k default).code.length ≤ kk)
     case atStart=>exact ⟨M0,ST0.out,RL0.out,Nat.le_refl _⟩
     case round =>
      clear ST0 RL0 zG0
      obtain ⟨M,st,rel,hkk⟩:=hrel
      have ST:=Lib.hid st
      have RL:=Lib.hid rel
      have HKK:=Lib.hid hkk
      have hkN:k < N.length:=by have:=HNL.out; omega
      have hkM:k < M.length:=by rw [rel.1]; exact hkN
      obtain ⟨f,hf⟩:∃ f,f=M.getD k default:=⟨_,rfl⟩
      have gf:GoodF N f:=by rw [hf]; exact rel.good hkN (HNG.out k hlt)
      have GF:=Lib.hid gf
      obtain ⟨n,hn⟩:∃ n,n=f.code.length:=⟨_,rfl⟩
      have hfew:n ≤ 6000:=by have:=gf.few; omega
      have CE:Hid (∀ w',Ext wr w' → G < w'.heap.size∧w'.cell? ⟨G,k * 9,none⟩=some (.string f.name)∧w'.cell? ⟨G,k * 9 + 1,none⟩=some (.int .i64 f.params)∧w'.cell? ⟨G,k * 9 + 2,none⟩=some (.int .i64 f.regs)∧w'.cell? ⟨G,k * 9 + 3,none⟩=some (.int .i64 f.ty.base)∧w'.cell? ⟨G,k * 9 + 4,none⟩=some (.int .i64 f.ty.bits)∧w'.cell? ⟨G,k * 9 + 5,none⟩=some (.string f.ty.name)∧w'.cell? ⟨G,k * 9 + 6,none⟩=some (.bool f.ty.opt)∧w'.cell? ⟨G,k * 9 + 7,none⟩=some (.bool f.ty.err)∧w'.cell? ⟨G,k * 9 + 8,none⟩=some (.slice f.A n f.cap)):=fun w' x=>(ST.out.ext' x).cells hkM hf hn
      have RG:Hid (∀ w',Ext wr w' → RgAt w' f.A f.code):=fun w' x=>by rw [hf]; exact (ST.out.ext' x).code hkM
      obtain ⟨g3,hg3,_⟩:=st.rows k hkM
      rw [← hf] at hg3
      have HDD:Hid (Calls Tryz.prog 118 #[.agg #[.string f.name,.int .i64 f.params,.int .i64 f.regs,.int .i64 f.ty.base,.int .i64 f.ty.bits,.string f.ty.name,.bool f.ty.opt,.bool f.ty.err,.slice (some ⟨g3,0,none⟩) n f.cap]] wr fun e w'=>∃ b:Nat,e=.returned (.slice (some ⟨b,0,none⟩) n n)∧RowAt w' b 4 n (fun z=>.bool (deadB f.code z))∧wr.heap.size ≤ b∧Ext wr w'):=by
       have h:=gdead_any N f wr gf (RG.out wr (Ext.refl _))
       unfold Rf.val at h
       rw [← hn,hg3] at h
       exact h
      have HWO:Hid (∀ gD w',Ext wr w' → RowAt w' gD 4 n (fun z=>.bool (rmB f.code z)) → Calls Tryz.prog 121 #[.slice (some ⟨g3,0,none⟩) n f.cap,.slice (some ⟨gD,0,none⟩) n n] w' fun e w''=>∃ v,e=.returned v∧w''.ownsRow w'.heap.size 67 11 v (withoutC f.code (rmB f.code)).length (recCells 11 rgC (withoutC f.code (rmB f.code)))∧Ext w' w''):=fun gD w' x hr=>by
       have h:=gwithout_any N f (rmB f.code) gD (cap:=f.cap) w' gf (RG.out w' x) hr hn
       rwa [hg3] at h
      rw [hg3] at RG CE
      have HN2:=Lib.hid hn
      have HF2:=Lib.hid hf
      have HKM:=Lib.hid hkM
      obtain ⟨zG,c0,c1,c2,c3,c4,c5,c6,c7,c8⟩:=CE.out wr (Ext.refl _)
      clear st rel hkk gf hf hn hg3 hkM hkN
      rename World=>wi
      go_wp2_with (first
       | (go_at_call 118
          (with_reducible refine (HDD.out).mono ?_)
          rintro r w3 ⟨gD,rfl,hrow,hge,x3⟩
          have HRW:=Lib.hid hrow
          have HGE:=Lib.hid hge
          have X3:=Lib.hid x3
          clear zG c0 c1 c2 c3 c4 c5 c6 c7 c8
          obtain ⟨zG,c0,c1,c2,c3,c4,c5,c6,c7,c8⟩:=CE.out w3 x3
          clear hrow hge x3))
      clear zG c0 c1 c2 c3 c4 c5 c6 c7 c8
      go_loopw [35] (fun i wq=>∃ j:Nat,j ≤ n∧i=.int .i64 j∧Ext wi wq∧RowAt wq gD 4 n (fun z=>.bool (if z < j then rmB f.code z else deadB f.code z))) (fun i _=>n - (intOf i).toNat)
      case atStart=>exact ⟨0,Nat.zero_le _,rfl,X3.out,HRW.out.same fun z hz=>by rw [if_neg (Nat.not_lt_zero _)]⟩
      case round =>
       clear HRW X3
       obtain ⟨j,hj,rfl,hx,hr⟩:=hrel
       have HX:=Lib.hid hx
       have HRR:=Lib.hid hr
       by_cases hlj:j < n
       ·have hjl:j < f.code.length:=by have:=HN2.out; omega
        obtain ⟨x,hxx⟩:∃ x,x=f.code.getD j default:=⟨_,rfl⟩
        have hcs:=(RG.out wr hx).cells hjl hxx
        simp only [Nat.zero_add] at hcs
        obtain ⟨hb1,d0,d1,d2,d3,d4,d5,d6,d7,d8,d9,d10⟩:=hcs
        have y0:=hr.cell hlj
        rw [if_neg (Nat.lt_irrefl _)] at y0
        have f0:=hr.frozen j
        have zy:=hr.lt
        have HR2:Hid (∀ w',Ext wr w' → RowAt (w'.setCell ⟨gD,j,none⟩ (.bool (rmB f.code j))) gD 4 n (fun z=>.bool (if z < j + 1 then rmB f.code z else deadB f.code z))):=fun w' x=>(HRR.out.ext x).set_ fun z hz=>by
         by_cases e:z=j
         ·subst e
          rw [if_pos rfl,if_pos (Nat.lt_succ_self _)]
         ·rw [if_neg e]
          by_cases h:z < j
          ·rw [if_pos h,if_pos (by omega)]
          ·rw [if_neg h,if_neg (by omega)]
        have HRM:=Lib.hid (rm_eq2 hjl)
        obtain ⟨t2,h2⟩:∃ t,(x.op == 2)=t:=⟨_,rfl⟩
        obtain ⟨t3,h3⟩:∃ t,(x.d == x.a)=t:=⟨_,rfl⟩
        obtain ⟨db,hdb⟩:∃ t,deadB f.code j=t:=⟨_,rfl⟩
        rw [← hxx,h2,h3,hdb] at HRM
        rw [hdb] at y0
        clear hx hr hxx hdb hjl
        cases db <;> cases t2 <;> cases t3
        all_goals
         go_wp2_with fail
         case roundEnd =>
          refine ⟨⟨j + 1,by omega,by go_num,(HX.out.setCell (p:=⟨gD,j,none⟩) HGE.out _).alloc _,?_⟩,by simp [intOf]; omega⟩
          have h:=(HR2.out wr (Ext.refl _)).ext ((Ext.refl _).alloc (.cells #[.int .i64 x.op,.int .i64 x.d,.int .i64 x.a,.int .i64 x.b,.int .i64 x.ty.base,.int .i64 x.ty.bits,.string x.ty.name,.bool x.ty.opt,.bool x.ty.err,.string x.name,.slice x.A x.args.length x.cap] 67))
          rw [HRM.out] at h
          exact h
       ·obtain rfl:j=n:=by omega
        have HRB:Hid (RowAt wr gD 4 j (fun z=>.bool (rmB f.code z))):=hr.same fun z hz=>by rw [if_pos hz]
        have HCB:=Lib.hid (gContainsB_any gD j j (rmB f.code) wr HRB.out hfew)
        clear hx hr HRR
        have zD:=HRB.out.lt
        obtain ⟨cb,hcb⟩:∃ cb:Bool,cb=true ↔ ∃ z,z < j∧rmB f.code z=true:=by
         by_cases h:∃ z,z < j∧rmB f.code z=true
         ·exact ⟨true,⟨fun _=>h,fun _=>rfl⟩⟩
         ·exact ⟨false,⟨fun h2=>(by cases h2),fun h2=>absurd h2 h⟩⟩
        have HCN:Hid (Calls Tryz.prog 120 #[.slice (some ⟨gD,0,none⟩) j j,.bool true] wr fun e w'=>e=.returned (.bool cb)∧wr=w'):=by
         refine HCB.out.mono fun e w' ⟨h1,h2⟩=>⟨?_,h2⟩
         rw [h1]
         congr 2
         rw [Bool.eq_iff_iff,decide_eq_true_iff]
         exact hcb.symm
        have HB:=Lib.hid hcb
        clear hcb HCB
        cases cb
        ·have HTD:Hid (Tidied f.code):=fun z=>by
          cases h:rmB f.code z with
          | false=>rfl
          | true =>
           have hz:=(rmB_parts h).1
           have:=HB.out.2 ⟨z,by have:=HN2.out; omega,h⟩
           cases this
         go_wp2_with (first
          | (go_at_call 120; (with_reducible refine (HCN.out).mono ?_); rintro r w' ⟨rfl,rfl⟩))
         case roundEnd=>exact ⟨⟨k + 1,M,by omega,by go_num,ST.out.ext' HX.out,RL.out.next (by rw [← HF2.out]; exact HTD.out)⟩,by simp [intOf]; omega⟩
        ·obtain ⟨zG,c0,c1,c2,c3,c4,c5,c6,c7,c8⟩:=CE.out wr HX.out
         obtain ⟨dd,hdd⟩:∃ dd,dd=withoutC f.code (rmB f.code):=⟨_,rfl⟩
         obtain ⟨md,hmd⟩:=without_del GF.out
         have hgd:GoodF N (f.with_ (withoutC f.code (rmB f.code))):=hmd.good (show GoodF N (f.with_ f.code) from GF.out)
         have hpos:1 ≤ (withoutC f.code (rmB f.code)).length:=hgd.pos
         have hless:(withoutC f.code (rmB f.code)).length < j:=by
          obtain ⟨z,hz,hzr⟩:=HB.out.1 rfl
          unfold withoutC
          rw [List.length_map,← HN2.out]
          have h:=(List.length_filter_lt_length_iff_exists (p:=fun q=>!rmB f.code q) (l:=List.range j)).2 ⟨z,List.mem_range.2 hz,by simp [hzr]⟩
          rwa [List.length_range] at h
         have HWW:=Lib.hid (HWO.out gD wr HX.out HRB.out)
         rw [← hdd] at hmd hpos hless HWW
         have HMD:=Lib.hid hmd
         clear hgd hdd hmd HWO
         go_wp2_with (first
          | (go_at_call 120; (with_reducible refine (HCN.out).mono ?_); rintro r w' ⟨rfl,rfl⟩)
          | (go_at_call 121
             (with_reducible refine (HWW.out).mono ?_)
             rintro r w5 ⟨v5,rfl,ow5,x5⟩
             obtain ⟨g5,c5',hv5,_,hr5⟩:=own_rec ow5 hpos
             subst hv5
             have HR5:=Lib.hid hr5
             have X5:=Lib.hid x5
             clear zG c0 c1 c2 c3 c4 c5 c6 c7 c8
             obtain ⟨zG,c0,c1,c2,c3,c4,c5,c6,c7,c8⟩:=CE.out w5 (HX.out.trans x5)
             have f8:=(ST.out.ext' (HX.out.trans x5)).row.frozen (k * 9 + 8)
             clear ow5 hr5 x5))
         have S5:=Lib.hid (ST.out.ext' (HX.out.trans X5.out))
         have HK5:=HKK.out
         have hfn:=HN2.out
         rw [← HF2.out] at HK5
         have hkN:k < N.length:=by have:=HNL.out; omega
         go_roundg dd.length
         case measure=>omega
         case rel =>
          refine ⟨_,S5.out.put HKM.out (g:=g5) (c:=c5') HR5.out (fun y hy=>?_),RL.out.put hkN (by rw [← HF2.out]; exact HMD.out) (some ⟨g5,0,none⟩) c5',?_⟩
          ·exact HMD.out.all (P:=fun x=>NewN w5 w1.heap.size x.A x.args) (fun i x hx=>by rw [(delX_At i x).1,(delX_At i x).2]; exact hx) (fun x hx=>S5.out.args k HKM.out x (by rw [← HF2.out]; exact hx)) y hy
          ·simp [List.getD,HKM.out]
    ·obtain rfl:k=len:=by omega
     have HLL:Hid (LikeR M0 (tidyL l)):=by
      have h:=RL0.out
      rw [← HNL.out] at h
      exact (h.end_ HNV.out).trans (tidyL_like HLK.out HV.out)
     have HML:Hid (M0.length=k):=by unfold Hid; rw [RL0.out.1]; exact HNL.out
     clear st rel
     go_wp2_with fail
     go_ret2
     exact ⟨M0,some ⟨G,0,none⟩,cg,(by rw [HML.out]; rfl),ST0.out.all,HLL.out,X1.out.trans ST0.out.ext⟩
 ·have HR:Hid (tidyR l=[]):=by unfold Hid tidyR; rw [if_neg h0]
  rw [HR.out]
  have hb:(validR l != 0)=true:=by simpa using h0
  obtain ⟨er,her⟩:∃ er,er=validR l:=⟨_,rfl⟩
  rw [← her] at hb HK ⊢
  clear h0 her
  go_enter Tryz.func54,Tryz.ntmps54
  go_wp2_with (first | (go_at_call 24; refine (HK.out).mono ?_; rintro r w1 ⟨rfl,x1⟩))
  go_ret2
  exact ⟨[],none,0,rfl,⟨At.nil _ _ _ _,fun f hf=>by cases hf⟩,rfl,x1⟩
end Go.Proofs.YtknaemlnhediaaaGreatDoor.c
