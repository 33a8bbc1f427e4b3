/- The reference's call at each depth. Conditions: right code. Contract of the reference's played: what a call comes to. Conditions: right code, right args. Contracts of the reference's Run and Steps: the outcome of a call, and its steps. Lengths are bounded. -/
import Derived.Test.YtknaemlnhediaaaGreatDoorHcall
import Derived.Test.YtknaemlnhediaaaGreatDoorHval
import Derived.Test.YtknaemlnhediaaaGreatDoorHm
namespace Go.Proofs.YtknaemlnhediaaaGreatDoor.c
open Go.RowKit
set_option linter.unusedVariables false
set_option maxRecDepth 100000
set_option maxHeartbeats 12800000
set_option linter.unusedSimpArgs false
theorem hcall_n (l:List Rf) (A:Option Addr) (len cap:Nat) (ck:Bool) (B:Option Addr) (bn bc:Nat) (wb:World) (m:Nat) (hlen:len=l.length) (hbn:bn=l.length) (hval:validR l=0) (hA:RfAt wb A l) (hmb:wb.heap.size ≤ m):∀ (n d:Nat),d + n=31 → HCall l A len cap ck B bn bc wb m d:=by
 intro n
 induction n with
 | zero=>intro d hd; exact hcall_deep l A len cap ck B bn bc wb m d (by omega) (by omega)
 | succ n ih=>intro d hd; exact hcall_step l A len cap ck B bn bc wb m d hlen hbn hval hA hmb (by omega) (ih (d + 1) (by omega))
theorem hcall_one (l:List Rf) (A:Option Addr) (len cap:Nat) (ck:Bool) (B:Option Addr) (bn bc:Nat) (wb:World) (m:Nat) (hlen:len=l.length) (hbn:bn=l.length) (hval:validR l=0) (hA:RfAt wb A l) (hmb:wb.heap.size ≤ m):HCall l A len cap ck B bn bc wb m 1:=hcall_n l A len cap ck B bn bc wb m hlen hbn hval hA hmb 30 1 rfl
theorem enters_room:Enters 142 := Enters.of Tryz.func142 (by kernel_rfl) (by kernel_rfl)
theorem hplayed_any (A:Option Addr) (cap:Nat) (l:List Rf) {len:Nat} (nm:ByteArray) (vA:Option Addr) (vc:Nat) (av:List Val) {na:Nat} (ck:Bool) (w:World) (hlen:len=l.length) (hna:na=av.length) (hA:RfAt w A l) (hV:ValsAt w vA av) (h0:runE l nm av=0)
  (hal:∀ f,f ∈ l → ∀ x,x ∈ f.code → x.args.length ≤ 9223372036854775806) :
  Calls Tryz.prog 75 #[.slice A len cap,.string nm,.slice vA na vc,.bool ck] w fun e w'=>∃ m B bn bc,e=.returned (.tuple #[.pointer (some ⟨m,0,none⟩),.agg (outC (outR l nm av ck).1)])∧HMem w' m A len cap ck (outR l nm av ck).2 (enE (outR l nm av ck).1).1 (enE (outR l nm av ck).1).2 B bn bc∧Ext w w':=by
 obtain ⟨hval,j,hj,hjl,hpar,hok⟩:=runE_parts h0
 have hvp:=validR_parts hval
 have hl48:len ≤ 48:=by omega
 have hna4:na ≤ 4:=by have:=(hvp.2.2 j hjl).1.par; omega
 obtain ⟨en,t,hr⟩:=Run.total l ck 1 j (av.map plainV) 0
 have HOUT:=Lib.hid (outR_eq (ck:=ck) h0 hj hr)
 obtain ⟨out,hout⟩:∃ out,out=outR l nm av ck:=⟨_,rfl⟩
 rw [← hout] at HOUT ⊢
 clear hout
 have HR:=Lib.hid hr
 have HA:=Lib.hid hA
 have HV:=Lib.hid hV
 have HLN:=Lib.hid hlen
 have HNA:=Lib.hid hna
 have HVP:=Lib.hid hvp
 have HVAL:=Lib.hid hval
 have HAL:=Lib.hid hal
 have HPAR:=Lib.hid hpar
 have HJ:=Lib.hid hj
 have HJL:=Lib.hid hjl
 have HS0:=Lib.hid (PSt.start (l:=l) (A:=A) (len:=len) (cap:=cap) (ck:=ck) w)
 clear hr hA hV hlen hna hvp hval hal hpar hj hok h0
 go_enter Tryz.func75,Tryz.ntmps75
 go_wp2_with fail
 obtain ⟨zo,hzo⟩:∃ zo,zo=w.heap.size:=⟨_,rfl⟩
 obtain ⟨m,hm⟩:∃ m,m=w.heap.size + 1:=⟨_,rfl⟩
 rw [← hm,← hzo] at HS0
 rw [← hm,← hzo]
 have hmm:w.heap.size < m:=by omega
 clear hzo hm
 go_loopw [11] (fun i wq=>∃ (q:Nat) (B:Option Addr) (bc:Nat),q ≤ len∧i=.int .i64 q∧PSt l A len cap ck w zo m q B bc wq) (fun i _=>len - (intOf i).toNat)
 case atStart=>exact ⟨0,none,0,Nat.zero_le _,rfl,HS0.out⟩
 case round =>
  clear HS0
  obtain ⟨q,B,bc,hq,rfl,hs⟩:=hrel
  have HS:=Lib.hid hs
  by_cases hlt:q < len
  ·have hql:q < l.length:=by have:=HLN.out; omega
   have hlt2:(q:Int) < len:=by omega
   obtain ⟨f,hf⟩:∃ f,f=l.getD q default:=⟨_,rfl⟩
   obtain ⟨bA,oA,rfl,hbA,_⟩:=(HA.out.ext hs.ext).at_ (k:=q) hql hf
   have hgf:=(HVP.out.2.2 q hql).1
   rw [← hf] at hgf
   have HGF:=Lib.hid hgf
   have HF:=Lib.hid hf
   have HZF:Hid ((Tryz.prog.info? 59).map (·.size)=some 9):=by unfold Hid; kernel_rfl
   obtain ⟨r,hrr⟩:∃ r,r=roomR f:=⟨_,rfl⟩
   have HRR:=Lib.hid hrr
   have HD:Hid (∀ (l':Array Bool) (b':Act) (w':World),VSt l (some ⟨bA,oA,none⟩) len cap ck w zo m q B bc r l' b' w' → m < w'.heap.size∧w'.cell? ⟨m,5,none⟩=some (.slice B q bc)):=fun l' b' w' h=>⟨h.mm.facts.1,h.mm.facts.2.2.2.2.2.2.1⟩
   have HST:∀ (i k:Nat) (v:Value) (_:i ≠ 10:=by decide) (_:i ≠ 11:=by decide) (_:k ≠ 36:=by decide) (_:k ≠ 37:=by decide) (l':Array Bool) (b':Act) (w':World),VSt l (some ⟨bA,oA,none⟩) len cap ck w zo m q B bc r (l'.setIfInBounds i true) (b'.put (some k) v) w' ↔ VSt l (some ⟨bA,oA,none⟩) len cap ck w zo m q B bc r l' b' w':=fun i k v h1 h3 h2 h4 l' b' w'=>VSt.same h1 h3 h2 h4 v l' b' w'
   have HC:Hid (∀ (l':Array Bool) (b':Act) (w':World),l'.getD 12 false=false → VSt l (some ⟨bA,oA,none⟩) len cap ck w zo m q B bc r l' b' w' → Calls Tryz.prog 142 #[.agg (rfA f).toList.toArray] w' fun e w''=>e=.returned (.int .i64 r)∧VSt l (some ⟨bA,oA,none⟩) len cap ck w zo m q B bc r l' b' w''):=fun l' b' w' _ h=>by
    have hfm:f ∈ l:=by rw [HF.out]; exact getD_mem hql
    have h2:=room_any l f w' HGF.out ((HA.out.ext h.ext).sub f hfm) (HAL.out f hfm)
    rw [HRR.out]
    rw [HRR.out] at h
    exact h2.mono fun e w'' z=>⟨z.1,h.ext' z.2⟩
   obtain ⟨i0,hi0,hz0,hz1,hz2⟩:=info_parts info_int
   have HI:=Lib.hid hi0
   have HZ0:=Lib.hid hz0
   have HZ1:=Lib.hid hz1
   have HZ2:=Lib.hid hz2
   clear hi0 hz0 hz1 hz2 hs hf hgf hrr
   go_wp2_with fail
   refine flowV_begin 12 (VSt l (some ⟨bA,oA,none⟩) len cap ck w zo m q B bc r) #[false,false,false,false,false,false,false,false,false,false,false,false,false,false,false] rfl (by kernel_rfl) (fun _ _ _ _ _ h=>h) (VSt.start HS.out _) (fun HQ=>?_)
   (refine tvp 0 26 rfl HQ (HST 0 26 _) ?_; try simp only [putL,List.set])
   (refine tvp 1 27 rfl HQ (HST 1 27 _) ?_; try simp only [putL,List.set])
   (refine tvp 2 28 rfl HQ (HST 2 28 _) ?_; try simp only [putL,List.set])
   (refine tvp 3 29 rfl HQ (HST 3 29 _) ?_; try simp only [putL,List.set])
   (refine tvd 4 30 rfl HQ (HST 4 30 _) ?_; try simp only [putL,List.set])
   (refine tvp 5 31 rfl HQ (HST 5 31 _) ?_; try simp only [putL,List.set])
   (refine tvp 6 32 rfl HQ (HST 6 32 _) ?_; try simp only [putL,List.set])
   (refine tvp 7 33 rfl HQ (HST 7 33 _) ?_; try simp only [putL,List.set])
   (refine flowV_take (i:=8) (t:=34) (m:=20) (oi:=⟨some 34,_,_,_,_,_⟩) rfl (by decide) (by kernel_rfl) (by kernel_rfl) rfl rfl (by kernel_rfl) (by kernel_rfl) (by kernel_rfl) HQ (HST 8 34 _) (doesV_load (by rfl) 59 _ rfl (bA) (oA + q * 9) rfl ((rfA f).toList) _ (fun l b' w' hF=>RfAt.range (HA.out.ext hF.ext) hql HF.out) Tryz.underlying59 rfl HZF.out) ?_; try simp only [putL,List.set])
   (refine flowV_take (i:=9) (t:=35) (m:=20) (oi:=⟨some 35,_,_,_,_,_⟩) rfl (by decide) (by kernel_rfl) (by kernel_rfl) rfl rfl (by kernel_rfl) (by kernel_rfl) (by kernel_rfl) HQ (HST 9 35 _) (Or.inr (Or.inl ⟨by rfl,_,_,fun l b' w' hlk hF=>?_,(HC.out)⟩)) ?_; (focus (have hq:=HD.out _ _ _ hF; go_simp; try simp only [enters_room _ _])); try simp only [putL,List.set])
   refine flowV_step (i:=10) (t:=36) (oi:=⟨some 36,_,_,_,_,_⟩) (by kernel_rfl) rfl (by decide) rfl rfl (by rfl) (fun w' hF=>?_)
   refine ⟨.slice (some ⟨w'.heap.size,0,none⟩) 1 1,w'.alloc (.cells #[.int .i64 r] 3),by go_simp,hF.made (by rfl) (Nat.lt_of_lt_of_eq (show 36 < 91 by decide) rfl),?_⟩
   clear hF
   generalize w'.heap.size=g0
   clear w'
   try simp only [Act.put,List.setIfInBounds_toArray,List.set_cons_zero,List.set_cons_succ]
   refine flowV_append (i:=11) (t:=37) (oi:=⟨some 37,_,_,_,_,_⟩) (by kernel_rfl) rfl (by decide) rfl rfl (by rfl) _ _ 65 rfl (m + 1) 3 i0 _ 1 8 Tryz.underlying65 HI.out HZ0.out HZ1.out HZ2.out rfl (by decide) (.slice B q bc) q (roomsL l q) rfl (fun w' hF=>hF.own (by rfl)) ⟨g0,0,none⟩ 1 1 [.int .i64 r] rfl rfl
    (fun w' hF j2 u hj2=>?c1) (fun u hu=>by simp at hu; subst hu; rfl) (by unfold maxLen; omega) (by omega) (fun w' hF=>by have:=hF.mm.facts.1; omega) (fun w' v' w3 hF ow3 g3=>hF.appended (by rfl) (Nat.lt_of_lt_of_eq (show 37 < 91 by decide) rfl) g3 ow3) (fun v'=>?_)
   case c1 =>
    obtain ⟨g1,he,hblk⟩:=hF.lit (by rfl) (by rfl)
    have he2:(some (Value.slice (some ⟨g0,0,none⟩) 1 1):Option Value)=some (.slice (some ⟨g1,0,none⟩) 1 1):=he
    cases he2
    rw [Addr.add_mid,Nat.zero_add]
    exact (hblk.cell j2).trans (by simpa using hj2)
   try simp only [Act.put,List.setIfInBounds_toArray,List.set_cons_zero,List.set_cons_succ]
   refine flowV_leave (k:=12) (r:=[13,14]) (L:=[⟨some 38,_,_,_,_,_⟩,⟨some 39,_,_,_,_,_⟩,⟨none,_,_,_,_,_⟩]) rfl (by kernel_rfl) (by kernel_rfl) rfl (by kernel_rfl) rfl (fun w' hF=>?_)
   rw [HRR.out] at hF
   obtain ⟨B',bc',hv',zm3,m5,fz5,hs3⟩:=hF.out (v:=v') (by rfl) (by rfl) hql HF.out
   subst hv'
   have HS3:=Lib.hid hs3
   clear hs3 hF HD HST HC HQ
   go_wp2_with fail
   go_roundw
   case rel=>exact ⟨q + 1,B',bc',by omega,by go_num,HS3.out⟩
   case measure=>simp [intOf]; omega
  ·obtain rfl:q=len:=by omega
   have hx:=hs.ext
   have zm0:=hs.mm.facts.1
   obtain ⟨bz,hbz⟩:∃ bz,bz=wr.heap.size:=⟨_,rfl⟩
   have HI0:Hid (ISt l A q cap ck w zo m B bc bz av 0 (.slice none 0 0) wr):=⟨hs,World.ownsRow_nil _ _ _ _,⟨by omega,by omega⟩,fun k hk=>by have:=(hs.own.lt k hk).2; omega⟩
   clear hs HS hbz
   go_wp2_with fail
   go_loopw [12,13] (fun v i wq=>∃ q2:Nat,q2 ≤ na∧i=.int .i64 q2∧ISt l A q cap ck w zo m B bc bz av q2 v wq) (fun _ i _=>na - (intOf i).toNat)
   case atStart=>exact ⟨0,Nat.zero_le _,rfl,HI0.out⟩
   case round =>
    clear HI0
    obtain ⟨q2,hq2,rfl,hi2⟩:=hrel
    have HI2:=Lib.hid hi2
    by_cases hlt2:q2 < na
    ·have hqa:q2 < av.length:=by have:=HNA.out; omega
     obtain ⟨u,hu⟩:∃ u,u=av.getD q2 default:=⟨_,rfl⟩
     obtain ⟨bv,ov,rfl,hbv,_,_,_,_,_,u5,u6,u7,_⟩:=(HV.out.ext hi2.mac.ext).at_ (k:=q2) hqa hu
     obtain ⟨bv2,ov2,hbe,hbv2,_,_,_,_,_,t5,t6,t7,_⟩:=HV.out.at_ (k:=q2) hqa hu
     cases hbe
     have HU:=Lib.hid hu
     have HUC:Hid (w.cell? ⟨bv,ov + q2 * 13 + 5,none⟩=some (.int .i64 u.n)∧w.cell? ⟨bv,ov + q2 * 13 + 6,none⟩=some (.bool u.null)∧w.cell? ⟨bv,ov + q2 * 13 + 7,none⟩=some (.string u.err)):=⟨t5,t6,t7⟩
     have HD:Hid (∀ (l':Array Bool) (b':Act) (w':World),WSt l A q cap ck w zo m B bc bz av q2 u12 u l' b' w' → bv < w'.heap.size∧w'.cell? ⟨bv,ov + q2 * 13 + 5,none⟩=some (.int .i64 u.n)∧w'.cell? ⟨bv,ov + q2 * 13 + 6,none⟩=some (.bool u.null)∧w'.cell? ⟨bv,ov + q2 * 13 + 7,none⟩=some (.string u.err)):=fun l' b' w' h=>by
      have x:=h.1.mac.ext
      obtain ⟨t5,t6,t7⟩:=HUC.out
      exact ⟨Nat.lt_of_lt_of_le hbv2 x.size,(x.cell (p:=⟨bv,ov + q2 * 13 + 5,none⟩) hbv2).trans t5,(x.cell (p:=⟨bv,ov + q2 * 13 + 6,none⟩) hbv2).trans t6,(x.cell (p:=⟨bv,ov + q2 * 13 + 7,none⟩) hbv2).trans t7⟩
     have HST:∀ (i k:Nat) (v:Value) (_:i ≠ 17:=by decide) (_:k ≠ 63:=by decide) (l':Array Bool) (b':Act) (w':World),WSt l A q cap ck w zo m B bc bz av q2 u12 u (l'.setIfInBounds i true) (b'.put (some k) v) w' ↔ WSt l A q cap ck w zo m B bc bz av q2 u12 u l' b' w':=fun i k v h1 h2 l' b' w'=>WSt.same h1 h2 v l' b' w'
     clear hu hi2 u5 u6 u7 t5 t6 t7
     go_wp2_with fail
     refine flowV_begin 18 (WSt l A q cap ck w zo m B bc bz av q2 u12 u) #[false,false,false,false,false,false,false,false,false,false,false,false,false,false,false,false,false,false,false,false] rfl (by kernel_rfl) (fun _ _ _ _ _ h=>h) (⟨HI2.out.ext' (Ext.refl _).drew,fun h=>(by cases h)⟩) (fun HQ=>?_)
     (refine tvp 0 46 rfl HQ (HST 0 46 _) ?_; try simp only [putL,List.set])
     (refine tvp 1 47 rfl HQ (HST 1 47 _) ?_; try simp only [putL,List.set])
     (refine tvp 2 48 rfl HQ (HST 2 48 _) ?_; try simp only [putL,List.set])
     (refine tvp 3 49 rfl HQ (HST 3 49 _) ?_; try simp only [putL,List.set])
     (refine tvp 4 50 rfl HQ (HST 4 50 _) ?_; try simp only [putL,List.set])
     (refine tvd 5 51 rfl HQ (HST 5 51 _) ?_; try simp only [putL,List.set])
     (refine tvp 6 52 rfl HQ (HST 6 52 _) ?_; try simp only [putL,List.set])
     (refine tvp 7 53 rfl HQ (HST 7 53 _) ?_; try simp only [putL,List.set])
     (refine tvp 8 54 rfl HQ (HST 8 54 _) ?_; try simp only [putL,List.set])
     (refine tvp 9 55 rfl HQ (HST 9 55 _) ?_; try simp only [putL,List.set])
     (refine tvd 10 56 rfl HQ (HST 10 56 _) ?_; try simp only [putL,List.set])
     (refine tvp 11 57 rfl HQ (HST 11 57 _) ?_; try simp only [putL,List.set])
     (refine tvp 12 58 rfl HQ (HST 12 58 _) ?_; try simp only [putL,List.set])
     (refine tvp 13 59 rfl HQ (HST 13 59 _) ?_; try simp only [putL,List.set])
     (refine tvp 14 60 rfl HQ (HST 14 60 _) ?_; try simp only [putL,List.set])
     (refine tvd 15 61 rfl HQ (HST 15 61 _) ?_; try simp only [putL,List.set])
     (refine tvp 16 62 rfl HQ (HST 16 62 _) ?_; try simp only [putL,List.set])
     refine flowV_step (i:=17) (t:=63) (oi:=⟨some 63,_,_,_,_,_⟩) (by kernel_rfl) rfl (by decide) rfl rfl (by rfl) (fun w' hF=>?_)
     refine ⟨.slice (some ⟨w'.heap.size,0,none⟩) 1 1,w'.alloc (.cells (plainV u).cells.toArray 37),by go_simp; rfl,⟨hF.1.ext' ((Ext.refl _).alloc _),fun _=>⟨w'.heap.size,by rfl,Blk.new _ _ _⟩⟩,?_⟩
     clear hF
     generalize w'.heap.size=g0
     clear w'
     simp only [Act.put,List.setIfInBounds_toArray,List.set_cons_zero,List.set_cons_succ]
     refine flowV_leave (k:=18) (r:=[19]) (L:=[⟨some 64,_,_,_,_,_⟩,⟨some 12,_,_,_,_,_⟩]) rfl (by kernel_rfl) (by kernel_rfl) rfl (by kernel_rfl) rfl (fun w' hF=>?_)
     obtain ⟨hs2,hg⟩:=hF
     obtain ⟨g1,he,hblk⟩:=hg rfl
     have he2:(some (Value.slice (some ⟨g0,0,none⟩) 1 1):Option Value)=some (.slice (some ⟨g1,0,none⟩) 1 1):=he
     cases he2
     have HS2:=Lib.hid hs2
     have HBK:=Lib.hid hblk
     clear hs2 hg he hblk HD HST HQ
     obtain ⟨i0,hi0,hz0,hz1,hz2⟩:=info_val_parts
     have HI:=Lib.hid hi0
     have HZ0:=Lib.hid hz0
     have HZ1:=Lib.hid hz1
     have HZ2:=Lib.hid hz2
     clear hi0 hz0 hz1 hz2
     go_wp2_with (first
      | (at_builtin
         refine wpList_append_own _ rfl _ _ 30 rfl bz 37 i0 _ 13 112 Tryz.underlying30 HI.out HZ0.out HZ1.out HZ2.out rfl (by decide) _ _ _ rfl HS2.out.own ⟨g0,0,none⟩ 1 1 (plainV u).cells rfl rfl ?c1 ?c2 ?c3 ?c4 ?c5 ?_))
     case c1 =>
      intro j2 u2 hj2
      rw [Addr.add_mid,Nat.zero_add]
      exact (HBK.out.cell j2).trans (by simpa using hj2)
     case c2=>exact (plainV u).one
     case c3=>unfold maxLen; omega
     case c4=>omega
     case c5=>exact HS2.out.lo.2
     intro v' w3 ow3 g3 _
     have HS3:=Lib.hid (HS2.out.pushed g3 hqa HU.out ow3)
     clear ow3 g3
     go_wp2_with fail
     go_roundw
     case rel=>exact ⟨q2 + 1,by omega,by go_num,HS3.out⟩
     case measure=>simp [intOf]; omega
    ·obtain rfl:q2=na:=by omega
     have hown:=hi2.own
     rw [List.take_of_length_le (by rw [List.length_map]; have:=HNA.out; omega)] at hown
     obtain ⟨vA9,vc9,hv9,hvals⟩:=own_vals hown (by rw [List.length_map]; exact HNA.out)
     subst hv9
     have hx:=hi2.mac.ext
     have hnum:=hi2.mac.nums HLN.out
     have HCALL:Hid (Calls Tryz.prog 143 #[.pointer (some ⟨m,0,none⟩),.int .i64 j,.slice vA9 q2 vc9,.int .i64 1] wr fun e w'=>HRet m A q cap ck B q bc en t wr e w') :=
      hcall_one l A q cap ck B q bc w m HLN.out HLN.out HVAL.out HA.out (by omega) j (av.map plainV) 0 wr vA9 q2 vc9 en t (by have:=HLN.out; have:=HJL.out; omega) (by rw [List.length_map]; exact HNA.out) (by rw [List.length_map]; exact HPAR.out) (by omega) hx hi2.mac.mm ⟨hnum.1,hnum.2⟩ hvals HR.out
     have HOO:=Lib.hid hi2.mac.oo
     have HX:=Lib.hid hx
     have HLO:=Lib.hid hi2.mac.lo
     clear hown hvals hx hnum hi2 HI2
     have HZO:Hid ((Tryz.prog.info? 40).map (·.size)=some 16):=by unfold Hid; kernel_rfl
     have HZV:Hid ((Tryz.prog.info? 37).map (·.size)=some 13):=by unfold Hid; kernel_rfl
     clear HR
     cases en with
     | ret v =>
      have HCX:Hid (Calls Tryz.prog 143 #[.pointer (some ⟨m,0,none⟩),.int .i64 j,.slice vA9 q2 vc9,.int .i64 1] wr fun e w'=>HRet m A q cap ck B q bc (.ret v) t wr e w'):=HCALL.out
      clear HCALL
      go_wp2_with (first
       | (go_at_call 80; refine (hfound_any A cap l nm wr HLN.out (HA.out.ext HX.out) (by omega)).mono ?_; rw [HJ.out]; rintro r w' ⟨rfl,rfl⟩)
       | (go_at_call 143; (with_reducible refine HCX.out.mono ?_); rintro r w9 ⟨rfl,g9,m9⟩)
       | ((with_reducible show wpList _ _ _ (Oper.mk none (.store 37 (.tmp 14) _) _ _ _ _ :: _) _ _)
          refine wpList_store_row rfl 37 _ _ rfl w9.heap.size rfl 37 zeroV v.cells.toArray (Blk.new w9 _ _) rfl rfl (Val.ones _) HZV.out ?_
          have X9:Hid (Ext w w9):=HX.out.grown g9 (fun k e=>by have:=Option.some.inj e; omega)
          have Z9:Hid (Blk w9 zo 40 outZ):=HOO.out.grown g9 (by have:=HLO.out; omega)
          have Y0:Hid (PEnd w zo w9.heap.size m v.cells.toArray A q cap ck B bc t (.ret v) ((w9.alloc (.cells zeroV 37)).setRow w9.heap.size v.cells.toArray)):=PEnd.start X9.out HLO.out Z9.out m9
          change Hid (PEnd w zo w9.heap.size m v.cells.toArray A q cap ck B bc t (.ret v) ((w9.alloc (.cells #[.int .i64 0,.int .i64 0,.string ⟨#[]⟩,.bool false,.bool false,.int .i64 0,.bool false,.string ⟨#[]⟩,.int .i64 0,.int .i64 0,.string ⟨#[]⟩,.bool false,.bool false] 37)).setRow w9.heap.size v.cells.toArray)) at Y0
          generalize ((w9.alloc (.cells #[.int .i64 0,.int .i64 0,.string ⟨#[]⟩,.bool false,.bool false,.int .i64 0,.bool false,.string ⟨#[]⟩,.int .i64 0,.int .i64 0,.string ⟨#[]⟩,.bool false,.bool false] 37)).setRow w9.heap.size v.cells.toArray)=w10 at Y0 ⊢
          generalize w9.heap.size=z14 at Y0 ⊢
          obtain ⟨zm10,s3,s4⟩:m < w10.heap.size∧w10.cell? ⟨m,3,none⟩=some (.int .i64 0)∧w10.cell? ⟨m,4,none⟩=some (.int .i64 0):=Y0.out.facts))
      clear X9 Z9 g9 m9 HCX HX HOO
      have HST:∀ (i k:Nat) (v9:Value) (l':Array Bool) (b':Act) (w':World),Still (PEnd w zo z14 m v.cells.toArray A q cap ck B bc t (.ret v)) (l'.setIfInBounds i true) (b'.put (some k) v9) w' ↔ Still (PEnd w zo z14 m v.cells.toArray A q cap ck B bc t (.ret v)) l' b' w':=fun _ _ _ _ _ _=>Iff.rfl
      have HD:Hid (∀ (l':Array Bool) (b':Act) (w':World),Still (PEnd w zo z14 m v.cells.toArray A q cap ck B bc t (.ret v)) l' b' w' → m < w'.heap.size∧w'.cell? ⟨m,3,none⟩=some (.int .i64 0)∧w'.cell? ⟨m,4,none⟩=some (.int .i64 0)):=fun l' b' w' h=>PEnd.facts h
      refine flowV_begin 4 (Still (PEnd w zo z14 m v.cells.toArray A q cap ck B bc t (.ret v))) #[false,false,false,false,false] rfl (by kernel_rfl) (fun _ _ _ _ _ h=>h) (Y0.out.drew) (fun HQ=>?_)
      (refine tvp 0 75 rfl HQ (HST 0 75 _) ?_; try simp only [putL,List.set])
      (refine flowV_take (i:=1) (t:=76) (m:=20) (oi:=⟨some 76,_,_,_,_,_⟩) rfl (by decide) (by kernel_rfl) (by kernel_rfl) rfl rfl (by kernel_rfl) (by kernel_rfl) (by kernel_rfl) HQ (HST 1 76 _) (doesV_load (by rfl) 37 _ rfl (z14) (0) rfl ([.int .i64 v.ty.base,.int .i64 v.ty.bits,.string v.ty.name,.bool v.ty.opt,.bool v.ty.err,.int .i64 v.n,.bool v.null,.string v.err,.int .i64 v.of.base,.int .i64 v.of.bits,.string v.of.name,.bool v.of.opt,.bool v.of.err]) _ (fun l b' w' hF=>PEnd.range hF) Tryz.underlying37 rfl HZV.out) ?_; try simp only [putL,List.set])
      (refine tvp 2 77 rfl HQ (HST 2 77 _) ?_; try simp only [putL,List.set])
      (refine tvp 3 8 rfl HQ (HST 3 8 _) ?_; try simp only [putL,List.set])
      refine flowV_leave (k:=4) (r:=[]) (L:=[⟨none,_,_,_,_,_⟩]) rfl (by kernel_rfl) (by kernel_rfl) rfl (by kernel_rfl) rfl (fun w' hF=>?_)
      have hF:PEnd _ _ _ _ _ _ _ _ _ _ _ _ _ w':=hF
      have HF:=Lib.hid hF
      clear HST HD hF HQ Y0
      go_wp2_with (first
       | ((with_reducible show wpList _ _ _ (Oper.mk none (.store 40 (.tmp 9) _) _ _ _ _ :: _) _ _); refine wpList_store_row rfl 40 _ _ rfl zo rfl 40 outZ (outC (.ret v)) HF.out.oo rfl rfl (outC_one _) HZO.out ?_))
      exact bodyPost_ret (results_tmp_row rfl _ _ zo 40 (outC (.ret v)) (0,0) _ rfl (HF.out.oo.row _) Tryz.underlying40 rfl HZO.out (.pointer (some ⟨m,0,none⟩)) rfl) rfl (HF.out.done HOUT.out)
     | stop y =>
      have HCX:Hid (Calls Tryz.prog 143 #[.pointer (some ⟨m,0,none⟩),.int .i64 j,.slice vA9 q2 vc9,.int .i64 1] wr fun e w'=>HRet m A q cap ck B q bc (.stop y) t wr e w'):=HCALL.out
      clear HCALL
      go_wp2_with (first
       | (go_at_call 80; refine (hfound_any A cap l nm wr HLN.out (HA.out.ext HX.out) (by omega)).mono ?_; rw [HJ.out]; rintro r w' ⟨rfl,rfl⟩)
       | (go_at_call 143; (with_reducible refine HCX.out.mono ?_); rintro r w9 ⟨rfl,g9,m9⟩)
       | ((with_reducible show wpList _ _ _ (Oper.mk none (.store 37 (.tmp 14) _) _ _ _ _ :: _) _ _)
          refine wpList_store_row rfl 37 _ _ rfl w9.heap.size rfl 37 zeroV (default:Val).cells.toArray (Blk.new w9 _ _) rfl rfl (Val.ones _) HZV.out ?_
          have X9:Hid (Ext w w9):=HX.out.grown g9 (fun k e=>by have:=Option.some.inj e; omega)
          have Z9:Hid (Blk w9 zo 40 outZ):=HOO.out.grown g9 (by have:=HLO.out; omega)
          have Y0:Hid (PEnd w zo w9.heap.size m (default:Val).cells.toArray A q cap ck B bc t (.stop y) ((w9.alloc (.cells zeroV 37)).setRow w9.heap.size (default:Val).cells.toArray)):=PEnd.start X9.out HLO.out Z9.out m9
          change Hid (PEnd w zo w9.heap.size m (default:Val).cells.toArray A q cap ck B bc t (.stop y) ((w9.alloc (.cells #[.int .i64 0,.int .i64 0,.string ⟨#[]⟩,.bool false,.bool false,.int .i64 0,.bool false,.string ⟨#[]⟩,.int .i64 0,.int .i64 0,.string ⟨#[]⟩,.bool false,.bool false] 37)).setRow w9.heap.size (default:Val).cells.toArray)) at Y0
          generalize ((w9.alloc (.cells #[.int .i64 0,.int .i64 0,.string ⟨#[]⟩,.bool false,.bool false,.int .i64 0,.bool false,.string ⟨#[]⟩,.int .i64 0,.int .i64 0,.string ⟨#[]⟩,.bool false,.bool false] 37)).setRow w9.heap.size (default:Val).cells.toArray)=w10 at Y0 ⊢
          generalize w9.heap.size=z14 at Y0 ⊢
          obtain ⟨zm10,s3,s4⟩:m < w10.heap.size∧w10.cell? ⟨m,3,none⟩=some (.int .i64 1)∧w10.cell? ⟨m,4,none⟩=some (.int .i64 y):=Y0.out.facts))
      clear X9 Z9 g9 m9 HCX HX HOO
      have HST:∀ (i k:Nat) (v9:Value) (l':Array Bool) (b':Act) (w':World),Still (PEnd w zo z14 m (default:Val).cells.toArray A q cap ck B bc t (.stop y)) (l'.setIfInBounds i true) (b'.put (some k) v9) w' ↔ Still (PEnd w zo z14 m (default:Val).cells.toArray A q cap ck B bc t (.stop y)) l' b' w':=fun _ _ _ _ _ _=>Iff.rfl
      have HD:Hid (∀ (l':Array Bool) (b':Act) (w':World),Still (PEnd w zo z14 m (default:Val).cells.toArray A q cap ck B bc t (.stop y)) l' b' w' → m < w'.heap.size∧w'.cell? ⟨m,3,none⟩=some (.int .i64 1)∧w'.cell? ⟨m,4,none⟩=some (.int .i64 y)):=fun l' b' w' h=>PEnd.facts h
      refine flowV_begin 7 (Still (PEnd w zo z14 m (default:Val).cells.toArray A q cap ck B bc t (.stop y))) #[false,false,false,false,false,false,false,false] rfl (by kernel_rfl) (fun _ _ _ _ _ h=>h) (Y0.out.drew) (fun HQ=>?_)
      (refine tvp 0 85 rfl HQ (HST 0 85 _) ?_; try simp only [putL,List.set])
      (refine tvp 1 86 rfl HQ (HST 1 86 _) ?_; try simp only [putL,List.set])
      (refine tvp 2 87 rfl HQ (HST 2 87 _) ?_; try simp only [putL,List.set])
      (refine tvp 3 88 rfl HQ (HST 3 88 _) ?_; try simp only [putL,List.set])
      (refine tvd 4 89 rfl HQ (HST 4 89 _) ?_; try simp only [putL,List.set])
      (refine tvp 5 90 rfl HQ (HST 5 90 _) ?_; try simp only [putL,List.set])
      (refine tvp 6 8 rfl HQ (HST 6 8 _) ?_; try simp only [putL,List.set])
      refine flowV_leave (k:=7) (r:=[]) (L:=[⟨none,_,_,_,_,_⟩]) rfl (by kernel_rfl) (by kernel_rfl) rfl (by kernel_rfl) rfl (fun w' hF=>?_)
      have hF:PEnd _ _ _ _ _ _ _ _ _ _ _ _ _ w':=hF
      have HF:=Lib.hid hF
      clear HST HD hF HQ Y0
      go_wp2_with (first
       | ((with_reducible show wpList _ _ _ (Oper.mk none (.store 40 (.tmp 9) _) _ _ _ _ :: _) _ _); refine wpList_store_row rfl 40 _ _ rfl zo rfl 40 outZ (outC (.stop y)) HF.out.oo rfl rfl (outC_one _) HZO.out ?_))
      exact bodyPost_ret (results_tmp_row rfl _ _ zo 40 (outC (.stop y)) (0,0) _ rfl (HF.out.oo.row _) Tryz.underlying40 rfl HZO.out (.pointer (some ⟨m,0,none⟩)) rfl) rfl (HF.out.done HOUT.out)
     | long =>
      have HCX:Hid (Calls Tryz.prog 143 #[.pointer (some ⟨m,0,none⟩),.int .i64 j,.slice vA9 q2 vc9,.int .i64 1] wr fun e w'=>HRet m A q cap ck B q bc (.long) t wr e w'):=HCALL.out
      clear HCALL
      go_wp2_with (first
       | (go_at_call 80; refine (hfound_any A cap l nm wr HLN.out (HA.out.ext HX.out) (by omega)).mono ?_; rw [HJ.out]; rintro r w' ⟨rfl,rfl⟩)
       | (go_at_call 143; (with_reducible refine HCX.out.mono ?_); rintro r w9 ⟨rfl,g9,m9⟩)
       | ((with_reducible show wpList _ _ _ (Oper.mk none (.store 37 (.tmp 14) _) _ _ _ _ :: _) _ _)
          refine wpList_store_row rfl 37 _ _ rfl w9.heap.size rfl 37 zeroV (default:Val).cells.toArray (Blk.new w9 _ _) rfl rfl (Val.ones _) HZV.out ?_
          have X9:Hid (Ext w w9):=HX.out.grown g9 (fun k e=>by have:=Option.some.inj e; omega)
          have Z9:Hid (Blk w9 zo 40 outZ):=HOO.out.grown g9 (by have:=HLO.out; omega)
          have Y0:Hid (PEnd w zo w9.heap.size m (default:Val).cells.toArray A q cap ck B bc t .long ((w9.alloc (.cells zeroV 37)).setRow w9.heap.size (default:Val).cells.toArray)):=PEnd.start X9.out HLO.out Z9.out m9
          change Hid (PEnd w zo w9.heap.size m (default:Val).cells.toArray A q cap ck B bc t .long ((w9.alloc (.cells #[.int .i64 0,.int .i64 0,.string ⟨#[]⟩,.bool false,.bool false,.int .i64 0,.bool false,.string ⟨#[]⟩,.int .i64 0,.int .i64 0,.string ⟨#[]⟩,.bool false,.bool false] 37)).setRow w9.heap.size (default:Val).cells.toArray)) at Y0
          generalize ((w9.alloc (.cells #[.int .i64 0,.int .i64 0,.string ⟨#[]⟩,.bool false,.bool false,.int .i64 0,.bool false,.string ⟨#[]⟩,.int .i64 0,.int .i64 0,.string ⟨#[]⟩,.bool false,.bool false] 37)).setRow w9.heap.size (default:Val).cells.toArray)=w10 at Y0 ⊢
          generalize w9.heap.size=z14 at Y0 ⊢
          obtain ⟨zm10,s3,s4⟩:m < w10.heap.size∧w10.cell? ⟨m,3,none⟩=some (.int .i64 2)∧w10.cell? ⟨m,4,none⟩=some (.int .i64 0):=Y0.out.facts)
       | ((with_reducible show wpList _ _ _ (Oper.mk none (.store 40 (.tmp 9) _) _ _ _ _ :: _) _ _); refine wpList_store_row rfl 40 _ _ rfl zo rfl 40 outZ (outC .long) Y0.out.oo rfl rfl (outC_one _) HZO.out ?_))
      have HF:=Lib.hid Y0.out
      exact bodyPost_ret (results_tmp_row rfl _ _ zo 40 (outC (.long)) (0,0) _ rfl (HF.out.oo.row _) Tryz.underlying40 rfl HZO.out (.pointer (some ⟨m,0,none⟩)) rfl) rfl (HF.out.done HOUT.out)
theorem out_none {l:List Rf} {nm:ByteArray} {av:List Val} {ck:Bool} (h:runE l nm av ≠ 0):outR l nm av ck=(.ret default,0):=by
 unfold outR
 rw [if_neg h]
section
variable (A:Option Addr) (cap:Nat) (l:List Rf) {len:Nat} (nm:ByteArray) (vA:Option Addr) (vc:Nat) (av:List Val) {na:Nat} (ck:Bool) (w:World) (hlen:len=l.length) (hna:na=av.length) (hA:RfAt w A l) (hV:ValsAt w vA av) (hl:len ≤ 9223372036854775806) (hna2:na ≤ 1000) (hc:len ≤ 48 → countR l ≤ 9223372036854775806) (hin:RgsIn l)
include hlen hna hA hV hl hna2 hc hin
theorem hRun_any:Calls Tryz.prog 21 #[.slice A len cap,.string nm,.slice vA na vc,.bool ck] w fun e w'=>e=.returned (.tuple #[.agg (outC (outR l nm av ck).1),.int .i64 (runE l nm av)])∧Ext w w':=by
 have HZO:Hid ((Tryz.prog.info? 40).map (·.size)=some 16):=by unfold Hid; kernel_rfl
 have HGIV:Hid (∀ w1,Ext w w1 → Calls Tryz.prog 74 #[.slice A len cap,.string nm,.slice vA na vc] w1 fun e w'=>e=.returned (.int .i64 (runE l nm av))∧Ext w1 w'):=fun w1 x=>hgiven_any A cap l nm vA vc av w1 hlen hna (hA.ext x) (hV.ext x) hl (by omega) hc hin
 have HPLAY:Hid (runE l nm av=0 → ∀ w1,Ext w w1 → Calls Tryz.prog 75 #[.slice A len cap,.string nm,.slice vA na vc,.bool ck] w1 fun e w'=>∃ m B bn bc,e=.returned (.tuple #[.pointer (some ⟨m,0,none⟩),.agg (outC (outR l nm av ck).1)])∧HMem w' m A len cap ck (outR l nm av ck).2 (enE (outR l nm av ck).1).1 (enE (outR l nm av ck).1).2 B bn bc∧Ext w1 w') :=
  fun h0 w1 x=>hplayed_any A cap l nm vA vc av ck w1 hlen hna (hA.ext x) (hV.ext x) h0 (fun f hf x hx=>(hin f hf x hx).2)
 have HOUTB:Hid (runE l nm av ≠ 0 → outC (outR l nm av ck).1=outZ):=fun h=>by rw [out_none h]; rfl
 have BZ:Hid (Blk (w.alloc (.cells #[.int .i64 0,.int .i64 0,.int .i64 0,.string ⟨#[]⟩,.bool false,.bool false,.int .i64 0,.bool false,.string ⟨#[]⟩,.int .i64 0,.int .i64 0,.string ⟨#[]⟩,.bool false,.bool false,.int .i64 0,.slice none 0 0] 40)) w.heap.size 40 outZ):=Blk.new w 40 outZ
 clear hlen hna hA hV hl hna2 hc hin
 obtain ⟨out,hout⟩:∃ out,out=outR l nm av ck:=⟨_,rfl⟩
 obtain ⟨v,hv⟩:∃ v,v=runE l nm av:=⟨_,rfl⟩
 rw [← hv] at HGIV HPLAY
 rw [← hout,← hv] at HOUTB ⊢
 rw [← hout] at HPLAY
 clear hout hv
 have HOS:=Lib.hid (outC_size out.1)
 have HO1:=Lib.hid (outC_one out.1)
 obtain ⟨oc,hoc⟩:∃ oc,oc=outC out.1:=⟨_,rfl⟩
 rw [← hoc] at HOUTB HOS HO1 HPLAY ⊢
 clear hoc
 go_enter Tryz.func21,Tryz.ntmps21
 by_cases h0:v=0
 ·have HPL:=Lib.hid (HPLAY.out h0)
  subst h0
  go_wp2_with (first
   | (go_at_call 74; (with_reducible refine (HGIV.out _ exA).mono ?_); rintro r w1 ⟨rfl,x1⟩)
   | (go_at_call 75; (with_reducible refine (HPL.out _ exA).mono ?_); rintro r w2 ⟨m,B,bn,bc,rfl,hm,x2⟩)
   | ((with_reducible show wpList _ _ _ (Oper.mk none (.store 40 (.tmp 12) _) _ _ _ _ :: _) _ _)
      refine wpList_store_row rfl 40 _ _ rfl w2.heap.size rfl 40 outZ oc (Blk.new w2 _ _) rfl (by rw [HOS.out]; rfl) HO1.out (by rw [HOS.out]; exact HZO.out) ?_
      have B2:Hid (Blk ((w2.alloc (.cells #[.int .i64 0,.int .i64 0,.int .i64 0,.string ⟨#[]⟩,.bool false,.bool false,.int .i64 0,.bool false,.string ⟨#[]⟩,.int .i64 0,.int .i64 0,.string ⟨#[]⟩,.bool false,.bool false,.int .i64 0,.slice none 0 0] 40)).setRow w2.heap.size oc) w2.heap.size 40 oc):=(Blk.new w2 40 outZ).row _
      have B1:Hid (Blk ((w2.alloc (.cells #[.int .i64 0,.int .i64 0,.int .i64 0,.string ⟨#[]⟩,.bool false,.bool false,.int .i64 0,.bool false,.string ⟨#[]⟩,.int .i64 0,.int .i64 0,.string ⟨#[]⟩,.bool false,.bool false,.int .i64 0,.slice none 0 0] 40)).setRow w2.heap.size oc) w.heap.size 40 outZ):=((BZ.out.ext x1).ext x2).ext exR
      have X3:Hid (Ext w ((w2.alloc (.cells #[.int .i64 0,.int .i64 0,.int .i64 0,.string ⟨#[]⟩,.bool false,.bool false,.int .i64 0,.bool false,.string ⟨#[]⟩,.int .i64 0,.int .i64 0,.string ⟨#[]⟩,.bool false,.bool false,.int .i64 0,.slice none 0 0] 40)).setRow w2.heap.size oc)):=(((Ext.refl w).alloc _).trans (x1.trans x2)).trans exR
      generalize ((w2.alloc (.cells #[.int .i64 0,.int .i64 0,.int .i64 0,.string ⟨#[]⟩,.bool false,.bool false,.int .i64 0,.bool false,.string ⟨#[]⟩,.int .i64 0,.int .i64 0,.string ⟨#[]⟩,.bool false,.bool false,.int .i64 0,.slice none 0 0] 40)).setRow w2.heap.size oc)=w3 at B1 B2 X3 ⊢
      generalize w2.heap.size=z2 at B2 ⊢)
   | ((with_reducible show wpList _ _ _ (Oper.mk _ (.load 40 (.tmp 12)) _ _ _ _ :: _) _ _); refine wpList_load_mid rfl 40 _ rfl z2 0 rfl oc.toList _ (fun j v hv=>by rw [Nat.zero_add,B2.out.cell]; simpa using hv) Tryz.underlying40 rfl (by rw [Array.length_toList,HOS.out]; exact HZO.out) ?_)
   | ((with_reducible show wpList _ _ _ (Oper.mk none (.store 40 (.tmp 8) _) _ _ _ _ :: _) _ _); refine wpList_store_row rfl 40 _ _ rfl w.heap.size rfl 40 outZ oc B1.out rfl (by rw [HOS.out]; rfl) HO1.out (by rw [HOS.out]; exact HZO.out) ?_))
  exact bodyPost_ret (results_row_tmp rfl _ _ w.heap.size 40 oc (0,0) _ rfl (B1.out.row _) Tryz.underlying40 rfl (by rw [HOS.out]; exact HZO.out) (.int .i64 0) rfl) rfl ⟨rfl,X3.out.setRow (Nat.le_refl _) _⟩
 ·have hb:(v != 0)=true:=by rw [bne_iff_ne]; exact h0
  have HB:=Lib.hid (HOUTB.out h0)
  go_wp2_with (first
   | (go_at_call 74; (with_reducible refine (HGIV.out _ exA).mono ?_); rintro r w1 ⟨rfl,x1⟩)
   | ((with_reducible show wpList _ _ _ (Oper.mk none (.store 40 (.tmp 8) _) _ _ _ _ :: _) _ _); refine wpList_store_row rfl 40 _ _ rfl w.heap.size rfl 40 outZ outZ (BZ.out.ext x1) rfl rfl (outC_one (.ret default)) HZO.out ?_))
  exact bodyPost_ret (results_row_tmp rfl _ _ w.heap.size 40 outZ (0,0) _ rfl ((BZ.out.ext x1).row _) Tryz.underlying40 rfl HZO.out (.int .i64 v) rfl) rfl ⟨by rw [HB.out],exR⟩
end
end Go.Proofs.YtknaemlnhediaaaGreatDoor.c
