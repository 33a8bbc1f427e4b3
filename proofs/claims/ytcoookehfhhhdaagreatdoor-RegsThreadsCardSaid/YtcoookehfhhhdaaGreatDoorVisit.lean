/- Contract of code.Cut's closure, that visits what a function calls. Conditions: sizes. Contract of code.Cut. The table strings.asciiSpace holds what its text lays; sizes are bounded. -/
import Derived.Test.YtcoookehfhhhdaaGreatDoorCut
import Derived.Test.YtcoookehfhhhdaaGreatDoorClone
import Derived.Test.YtcoookehfhhhdaaGreatDoorFuncs
import Derived.Deep.RegionHeld3
import Derived.Test.YtcoookehfhhhdaaGreatDoorCthread
import Derived.Laws.EntriesVeiled
namespace Go.Proofs.YtcoookehfhhhdaaGreatDoor.c
open Go.RowKit
set_option linter.unusedVariables false
set_option maxRecDepth 100000
set_option maxHeartbeats 6400000
set_option linter.unusedSimpArgs false
theorem info_boolV:(Tryz.prog.info? 4).map (fun i=>(i.zero,i.size,i.bytes))=some (some (.bool false),1,1):=by kernel_rfl

structure CuMem (w0 w:World) (A:Option Addr) (cap len b9 b2 b10 gn:Nat) (N:Nat → Bool):Prop where
 ext:Ext w0 w
 nb:w.cell? ⟨b9,0,none⟩=some (.slice (some ⟨gn,0,none⟩) len len)
 lb:w.cell? ⟨b2,0,none⟩=some (.slice A len cap)
 vb:w.cell? ⟨b10,0,none⟩=some (.func (Fn.func 24) #[] #[.pointer (some ⟨b9,0,none⟩),.pointer (some ⟨b2,0,none⟩),.pointer (some ⟨b10,0,none⟩)])
 z:b9 < w.heap.size∧b2 < w.heap.size∧b10 < w.heap.size
 row:RowAt w gn 4 len (fun j=>.bool (N j))
structure CuCon (w0:World) (b9 b2 b10 gn:Nat):Prop where
 ne:b9 ≠ gn∧b2 ≠ gn∧b10 ≠ gn
 base:w0.heap.size ≤ gn
section
variable {w0 w w':World} {A:Option Addr} {cap len b9 b2 b10 gn:Nat} {N N':Nat → Bool}
theorem toGrown (x:Ext w w') (row:Option Nat):w.grownBy w' row:=⟨x.out.os,x.out.tape,x.out.output,x.out.size,fun i hi _=>x.out.block i hi⟩
theorem CuMem.ext' (s:CuMem w0 w A cap len b9 b2 b10 gn N) (x:Ext w w'):CuMem w0 w' A cap len b9 b2 b10 gn N :=
 ⟨s.ext.trans x,(x.cell (p:=⟨b9,0,none⟩) s.z.1).trans s.nb,(x.cell (p:=⟨b2,0,none⟩) s.z.2.1).trans s.lb,(x.cell (p:=⟨b10,0,none⟩) s.z.2.2).trans s.vb,⟨by have:=s.z.1; have:=x.size; omega,by have:=s.z.2.1; have:=x.size; omega,by have:=s.z.2.2; have:=x.size; omega⟩,s.row.ext x⟩
theorem CuMem.turned (s:CuMem w0 w A cap len b9 b2 b10 gn N) (c:CuCon w0 b9 b2 b10 gn) (g:w.grownBy w' (some gn)) (r:RowAt w' gn 4 len (fun j=>.bool (N' j))):CuMem w0 w' A cap len b9 b2 b10 gn N':=by
 have cell:∀ b,b < w.heap.size → b ≠ gn → w'.cell? ⟨b,0,none⟩=w.cell? ⟨b,0,none⟩:=fun b hb hne=>World.cell?_of_block (a:=⟨b,0,none⟩) (g.block b hb (fun e=>hne (Option.some.inj e)))
 exact ⟨s.ext.grown g (fun k e=>by have:=Option.some.inj e; have:=c.base; omega),(cell _ s.z.1 c.ne.1).trans s.nb,(cell _ s.z.2.1 c.ne.2.1).trans s.lb,(cell _ s.z.2.2 c.ne.2.2).trans s.vb,⟨by have:=s.z.1; have:=g.size; omega,by have:=s.z.2.1; have:=g.size; omega,by have:=s.z.2.2; have:=g.size; omega⟩,r⟩
theorem CuMem.mark (s:CuMem w0 w A cap len b9 b2 b10 gn N) (c:CuCon w0 b9 b2 b10 gn) (k:Nat):CuMem w0 (w.setCell ⟨gn,k,none⟩ (.bool true)) A cap len b9 b2 b10 gn (setN N k):=by
 refine s.turned c ⟨rfl,rfl,rfl,by simp,fun i hi hne=>Below.heap_setCell w _ _ i (fun e=>hne (by rw [e]))⟩ (s.row.set_ fun j hj=>?_)
 unfold setN
 by_cases e:j=k
 ·rw [if_pos e,if_pos e]
 ·rw [if_neg e,if_neg e]
end
theorem mark_grown (w:World) (gn k:Nat) (u:Value):w.grownBy (w.setCell ⟨gn,k,none⟩ u) (some gn):=⟨rfl,rfl,rfl,by simp,fun i hi hne=>Below.heap_setCell w _ _ i (fun e=>hne (by rw [e]))⟩
theorem grown_trans {a b c:World} {r:Option Nat} (h:a.grownBy b r) (k:b.grownBy c r):a.grownBy c r :=
 ⟨k.os.trans h.os,k.tape.trans h.tape,k.output.trans h.output,Nat.le_trans h.size k.size,fun i hi hne=>(k.block i (Nat.lt_of_lt_of_le hi h.size) hne).trans (h.block i hi hne)⟩
def VisRet (l:List Fc) (w0:World) (A:Option Addr) (cap len b9 b2 b10 gn:Nat) (N:Nat → Bool) (k:Nat) (e:Ending) (w w':World):Prop :=
 e=.returned (.tuple #[])∧∃ M,CuMem w0 w' A cap len b9 b2 b10 gn M∧w.grownBy w' (some gn)∧VisOk l N k M
theorem call_found {l:List Fc} (hv:validS l=0) {k:Nat} (hk:k < l.length) {x:Cd} (hx:x ∈ (l.getD k default).code) (h16:x.op=16):∃ j:Nat,indexS l x.name=j∧j < l.length:=by
 rcases index_spec l x.name with ⟨e1,_⟩ | ⟨j,e1,hj,_,_⟩
 ·exfalso
  have hi:=(fcS_parts ((valid_parts hv).2.2.2 k hk).1).2.2.2 x hx
  obtain ⟨op,a,b,ty,nm⟩:=x
  simp only [] at h16 e1
  subst h16
  unfold instS shapeS at hi
  simp [e1] at hi
 ·exact ⟨j,e1,hj⟩
theorem visit_any (l:List Fc) (w0:World) (A:Option Addr) (cap len b9 b2 b10 gn:Nat) (hv:validS l=0) (hlen:len=l.length) (hA:FcAt w0 A l) (con:CuCon w0 b9 b2 b10 gn) :
  ∀ (n:Nat) (N:Nat → Bool) (w:World) (k:Nat),cnt N len ≤ n → k < len → CuMem w0 w A cap len b9 b2 b10 gn N →
   Calls Tryz.prog 24 #[.int .i64 k,.pointer (some ⟨b9,0,none⟩),.pointer (some ⟨b2,0,none⟩),.pointer (some ⟨b10,0,none⟩)] w fun e w'=>VisRet l w0 A cap len b9 b2 b10 gn N k e w w':=by
 subst hlen
 intro n
 induction n with
 | zero =>
  intro N w k hn hk s
  have hm:N k=true:=by
   cases h:N k
   ·have:=cnt_lt (n:=l.length) hk h; omega
   ·rfl
  have n0:=s.row.cell hk
  have nb:=s.nb
  obtain ⟨z9,z2,z10⟩:=s.z
  have zn:=s.row.lt
  rw [hm] at n0
  have S:=Lib.hid s
  have HM:=Lib.hid hm
  clear s hm
  go_enter Tryz.func24,Tryz.ntmps24
  go_wp2_with fail
  exact bodyPost_ret (results_none rfl _ _ _) rfl ⟨rfl,N,S.out,toGrown (Ext.refl _) _,VisOk.again HM.out⟩
 | succ n ih =>
  intro N w k hn hk s
  have n0:=s.row.cell hk
  have f0:=s.row.frozen k
  have nb:=s.nb
  have lb:=s.lb
  obtain ⟨z9,z2,z10⟩:=s.z
  have zn:=s.row.lt
  cases hm:N k with
  | true =>
   rw [hm] at n0
   have S:=Lib.hid s
   have HM:=Lib.hid hm
   clear s hm
   go_enter Tryz.func24,Tryz.ntmps24
   go_wp2_with fail
   exact bodyPost_ret (results_none rfl _ _ _) rfl ⟨rfl,N,S.out,toGrown (Ext.refl _) _,VisOk.again HM.out⟩
  | false =>
   rw [hm] at n0
   obtain ⟨ne9,ne2,ne10⟩:=con.ne
   have hkl:k < l.length:=by omega
   have hl48:=(valid_parts hv).1
   obtain ⟨f,hf⟩:∃ f,f=l.getD k default:=⟨_,rfl⟩
   have hsn:Sane f.code:=sane_of hv (by rw [hf]; exact getD_mem hkl)
   have hfew:=hsn.few
   have s1:=s.mark con k
   have S1:=Lib.hid s1
   have hcn:=cnt_lt hk hm
   have HCN:Hid (cnt (setN N k) l.length ≤ n):=by unfold Hid; omega
   obtain ⟨b,off,he,hb,c0,c1,c2,c3,c4,c5,c6,c7,c8,hcd⟩:=(hA.ext s1.ext).at_ (k:=k) hkl hf
   subst he
   obtain ⟨bc,oc,hac,hbc,_⟩:=(hA.sub f (by rw [hf]; exact getD_mem hkl)) (by have:=hsn.pos; omega)
   obtain ⟨nc,hnc⟩:∃ nc,nc=f.code.length:=⟨_,rfl⟩
   have HNC:=Lib.hid hnc
   rw [← hnc,hac] at c8
   rw [← hnc] at hfew
   have HAC:=Lib.hid hac
   have HF:=Lib.hid hf
   have HV:=Lib.hid hv
   have HA:=Lib.hid hA
   have HCON:=Lib.hid con
   have HIH:=Lib.hid ih
   have lb1:=s1.lb
   clear hf hnc hac hsn s hcd hv hA con ih hm hn hcn c0 c1 c2 c3 c4 c5 c6 c7 s1
   go_enter Tryz.func24,Tryz.ntmps24
   go_wp2_with fail
   have G1:=Lib.hid (mark_grown w gn k (.bool true))
   generalize w.setCell ⟨gn,k,none⟩ (.bool true)=w1 at S1 G1 ⊢
   clear nb lb z9 z2 z10 zn n0 f0 c8 lb1
   go_loopw [6,20] (fun _ i wr=>∃ q M,q ≤ nc∧i=.int .i64 (q:Nat)∧CuMem w0 wr (some ⟨b,off,none⟩) cap l.length b9 b2 b10 gn M∧w.grownBy wr (some gn)∧VisTo l N k q M) (fun _ i _=>nc - (intOf i).toNat)
   case atStart=>exact ⟨0,_,Nat.zero_le _,rfl,S1.out,G1.out,VisTo.start⟩
   case round =>
    clear S1 G1
    obtain ⟨q,M,hq,rfl,st,gr,vt⟩:=hrel
    have ST:=Lib.hid st
    have GR:=Lib.hid gr
    have VT:=Lib.hid vt
    by_cases hlq:q < nc
    ·have hqf:q < f.code.length:=by have:=HNC.out; omega
     obtain ⟨x,hxx⟩:∃ x,x=f.code.getD q default:=⟨_,rfl⟩
     have hcd:=(HA.out.sub f (by rw [HF.out]; exact getD_mem hkl)).ext st.ext
     obtain ⟨b5,o5,he5,hb5,d0,d1,d2,d3,d4,d5,d6,d7,d8⟩:=hcd.at_ (k:=q) hqf hxx
     rw [HAC.out] at he5
     cases he5
     have HX:=Lib.hid hxx
     clear st gr vt hcd hxx
     have hzw:=ST.out.z
     go_wp2_with fail
     ·have h16:x.op=16:=by first | assumption | exact eq_of_beq (by assumption)
      obtain ⟨j,hj,hjl⟩:=call_found HV.out hkl (x:=x) (by rw [← HF.out,HX.out]; exact getD_mem hqf) h16
      have HJ:=Lib.hid hj
      have S5:Hid (∀ o,CuMem w0 (wr.alloc o) (some ⟨b,off,none⟩) cap l.length b9 b2 b10 gn M):=fun o=>ST.out.ext' ((Ext.refl wr).alloc o)
      have B5:Hid (∀ cs,Blk (wr.alloc (.cells cs 63)) wr.heap.size 63 cs):=fun cs=>Blk.new _ _ _
      have HW:Hid (∀ (w':World) (M':Nat → Bool) (cs:Array Value),CuMem w0 w' (some ⟨b,off,none⟩) cap l.length b9 b2 b10 gn M' → Blk w' wr.heap.size 63 cs → cs[8]?=some (.string x.name) → (w'.cell? ⟨b10,0,none⟩=some (.func (Fn.func 24) #[] #[.pointer (some ⟨b9,0,none⟩),.pointer (some ⟨b2,0,none⟩),.pointer (some ⟨b10,0,none⟩)])∧w'.cell? ⟨b2,0,none⟩=some (.slice (some ⟨b,off,none⟩) l.length cap)∧w'.cell? ⟨wr.heap.size,8,none⟩=some (.string x.name))):=fun w' M' cs h1 h2 h3=>⟨h1.vb,h1.lb,(h2.cell 8).trans h3⟩
      have hbg:wr.heap.size ≠ gn:=by have:=ST.out.row.lt; omega
      have HCM:Hid (cnt M l.length ≤ n):=Nat.le_trans (cnt_le _ VT.out.sub2) HCN.out
      clear hj d0 d1 d2 d3 d4 d5 d6 d7 d8
      obtain ⟨s0,s1,s2⟩:=HW.out _ _ _ (S5.out _) (B5.out #[.int .i64 16,.int .i64 x.a,.int .i64 x.b,.int .i64 x.ty.base,.int .i64 x.ty.bits,.string x.ty.name,.bool x.ty.opt,.bool x.ty.err,.string x.name]) rfl
      go_region_held3 (fun w'=>w'.cell? ⟨b10,0,none⟩=some (.func (Fn.func 24) #[] #[.pointer (some ⟨b9,0,none⟩),.pointer (some ⟨b2,0,none⟩),.pointer (some ⟨b10,0,none⟩)])∧w'.cell? ⟨b2,0,none⟩=some (.slice (some ⟨b,off,none⟩) l.length cap)∧w'.cell? ⟨wr.heap.size,8,none⟩=some (.string x.name)) ((first | exact HW.out _ _ _ (S5.out _) (B5.out _) rfl | exact HW.out _ _ _ ((S5.out _).ext' ((Ext.refl _).drew)) ((B5.out _).drew) rfl | exact HW.out _ _ _ s6 b6 rfl | exact HW.out _ _ _ s7 b7 rfl)) ((first
       | (go_at_call 25
          refine (index_any (some ⟨b,off,none⟩) cap l x.name _ (HA.out.ext ((S5.out _).ext.drew)) (by omega)).mono ?_
          rw [HJ.out]
          rintro r w6 ⟨rfl,x6⟩
          have s6:=((S5.out _).ext' ((Ext.refl _).drew)).ext' x6
          have b6:=((B5.out _).drew).ext x6)
       | (go_at_call 24
          refine (HIH.out M w6 j HCM.out hjl s6).mono ?_
          rintro r w7 ⟨rfl,M',s7,g7,o7⟩
          have b7:=b6.grown g7 (fun e=>hbg (Option.some.inj e)))))
      have S7:=Lib.hid s7
      have GX:=Lib.hid (grown_trans (grown_trans GR.out (toGrown ((((Ext.refl wr).alloc _).drew).trans x6) _)) g7)
      have O7:=Lib.hid o7
      clear s0 s1 s2 s6 s7 b6 b7 g7 o7 x6
      go_wp2_with fail
      refine ⟨⟨q + 1,M',by omega,by go_num,S7.out,GX.out,VT.out.step (j:=j) (by rw [← HF.out]; exact hqf) (by rw [← HF.out,← HX.out]; exact h16) (by rw [← HF.out,← HX.out]; exact HJ.out) O7.out⟩,by simp [intOf]; omega⟩
     ·have h16:x.op ≠ 16:=by first | assumption | exact ne_of_beq_false (by assumption)
      refine ⟨⟨q + 1,M,by omega,by go_num,ST.out.ext' ((Ext.refl _).alloc _),grown_trans GR.out (toGrown ((Ext.refl wr).alloc _) _),VT.out.pass fun _=>by rw [← HF.out,← HX.out]; exact h16⟩,by simp [intOf]; omega⟩
    ·obtain rfl:q=nc:=by omega
     clear st gr vt
     go_wp2_with fail
     refine bodyPost_end (results_none rfl _ _ _) rfl ⟨rfl,M,ST.out,GR.out,VT.out.end_ ?_⟩
     rw [← HF.out,← HNC.out]
     exact Nat.le_refl _
def StrsAt (w:World) (A:Option Addr) (rs:List ByteArray):Prop:=At w A rs.length 1 (fun i _=>.string (rs.getD i ⟨#[]⟩))
def CutRet (l:List Fc) (rs:List ByteArray) (er:Int) (e:Ending) (w w':World):Prop :=
 ∃ v m A' cap',e=.returned (.tuple #[v,.int .i64 (er)])∧v=.slice A' m.length cap'∧FcAt w' A' m∧(er=0 → CutL l (Need l (Roots l rs)) m∧∀ r,r ∈ rs → 0 ≤ indexS l r)∧(er ≠ 0 → m=[])∧Ext w w'
theorem cutRet_none {l:List Fc} {rs:List ByteArray} {w w':World} {er:Int} (he:er=cutE l rs) (h:er ≠ 0) (x:Ext w w'):CutRet l rs (cutE l rs) (.returned (.tuple #[.slice none 0 0,.int .i64 er])) w w':=by
 subst he
 exact ⟨_,[],none,0,rfl,rfl,⟨At.nil _ _ _ _,fun f hf=>by cases hf⟩,fun e=>absurd e h,fun _=>rfl,x⟩
theorem cutRet_some {l m:List Fc} {rs:List ByteArray} {w w':World} {N:Nat → Prop} {A:Option Addr} {cap:Nat} (h0:(checkE l).2.2=0) (hr:∀ p,p < rs.length → ∃ k:Nat,indexS l (rs.getD p ⟨#[]⟩)=k) (hf:FcAt w' A m) (h:CutTo l N l.length m) (hs:∀ i,N i ↔ Need l (Roots l rs) i) (x:Ext w w'):CutRet l rs (cutE l rs) (.returned (.tuple #[.slice A m.length cap,.int .i64 0])) w w':=by
 obtain ⟨e,h2⟩:=cutE_ok h0 hr
 exact ⟨_,m,A,cap,by rw [e],rfl,hf,fun _=>⟨h.all hs,h2⟩,fun hne=>absurd e hne,x⟩
theorem index_at {len:Nat} (A:Option Addr) (cap:Nat) (l:List Fc) (n:ByteArray) (w:World) (h:len=l.length) (hA:FcAt w A l) (hl:len ≤ 9223372036854775807) :
  Calls Tryz.prog 25 #[.slice A len cap,.string n] w fun e w'=>e=.returned (.int .i64 (indexS l n))∧Ext w w':=by
 subst h
 exact index_any A cap l n w hA hl
theorem visit_at {len:Nat} (l:List Fc) (w0:World) (A:Option Addr) (cap b9 b2 b10 gn:Nat) (h:len=l.length) (hv:validS l=0) (hA:FcAt w0 A l) (con:CuCon w0 b9 b2 b10 gn) (N:Nat → Bool) (w:World) (k:Nat) (hk:k < len) (st:CuMem w0 w A cap len b9 b2 b10 gn N) :
  Calls Tryz.prog 24 #[.int .i64 k,.pointer (some ⟨b9,0,none⟩),.pointer (some ⟨b2,0,none⟩),.pointer (some ⟨b10,0,none⟩)] w fun e w'=>VisRet l w0 A cap len b9 b2 b10 gn N k e w w' :=
 visit_any l w0 A cap len b9 b2 b10 gn hv h hA con _ N w k (Nat.le_refl _) hk st
theorem cCut_any (A:Option Addr) (cap:Nat) (l:List Fc) (B:Option Addr) (capB:Nat) (rs:List ByteArray) (w:World) (g:Laid w) (hA:FcAt w A l) (hB:StrsAt w B rs) (hr:rs.length ≤ 9223372036854775806) (hl:l.length ≤ 9223372036854775806) (hc:l.length ≤ 48 → countS l ≤ 9223372036854775806) (hfl:∀ f,f ∈ l → f.code.length ≤ 9223372036854775806) :
  Calls Tryz.prog 8 #[.slice A l.length cap,.slice B rs.length capB] w fun e w'=>CutRet l rs (cutE l rs) e w w':=by
 have HCC:Hid (∀ w1,Ext w w1 → Calls Tryz.prog 20 #[.slice A l.length cap] w1 fun e w'=>e=.returned (.tuple #[.int .i64 (checkE l).1,.int .i64 (checkE l).2.1,.int .i64 (checkE l).2.2])∧Ext w1 w'):=fun w1 x=>cCheck_any A cap l w1 (g.ext x) (hA.ext x) hl hc hfl
 by_cases h0:(checkE l).2.2=0
 ·obtain ⟨hv,hun⟩:=check_ok h0
  have H0:=Lib.hid h0
  rw [check_zero h0] at HCC
  have hl48:=(valid_parts hv).1
  have HV:=Lib.hid hv
  obtain ⟨i0,hi0,hz0,hz1,hz2⟩:=info_parts info_func
  have HI:=Lib.hid hi0; have HZ0:=Lib.hid hz0; have HZ1:=Lib.hid hz1; have HZ2:=Lib.hid hz2
  have HA:=Lib.hid hA
  have HB:=Lib.hid hB
  obtain ⟨len,hlen⟩:∃ len,len=l.length:=⟨_,rfl⟩
  have HLn:=Lib.hid hlen
  obtain ⟨nr,hnr⟩:∃ nr,nr=rs.length:=⟨_,rfl⟩
  have HNR:=Lib.hid hnr
  rw [← hlen] at hl hl48 HCC ⊢
  rw [← hnr] at hr ⊢
  have hmk:=fun W=>run_make_row' (P:=Tryz.prog) 67 4 (.bool false) 1 Tryz.underlying67 info_boolV rfl .i64 .i64 len (by omega) (by omega) W
  have hnb:w.heap.size < w.heap.size + 1:=Nat.lt_succ_self _
  clear hlen hnr hv hun h0 hi0 hz0 hz1 hz2 hA hB hfl hc
  simp only [] at HCC
  go_enter Tryz.func8,Tryz.ntmps8
  go_wp2_with (first
   | (go_at_call 20
      refine (HCC.out _ exL).mono ?_
      rintro r w1 ⟨rfl,x1⟩
      have lb1:w1.cell? ⟨w.heap.size,0,none⟩=some (.slice A len cap):=(x1.cell (p:=⟨w.heap.size,0,none⟩) (by simp)).trans (by simp [go_sem])
      have z1:w.heap.size < w1.heap.size:=Nat.lt_of_lt_of_le (by simp) x1.size
      have X1:Hid (Ext w w1):=((Ext.refl w).alloc _).trans x1
      clear x1))
  have C0:Hid (∀ t1 t2,CuMem w1 (((w1.alloc (.cells (madeCells #[.bool false] len) 4)).alloc (.cells #[.slice (some ⟨w1.heap.size,0,none⟩) len len] t1)).alloc (.cells #[.func (Fn.func 24) #[] #[.pointer (some ⟨w1.heap.size + 1,0,none⟩),.pointer (some ⟨w.heap.size,0,none⟩),.pointer (some ⟨w1.heap.size + 1 + 1,0,none⟩)]] t2)) A cap len (w1.heap.size + 1) w.heap.size (w1.heap.size + 1 + 1) w1.heap.size (fun _=>false)):=by
   intro t1 t2
   have xx:∀ o1 o2 o3,Ext w1 (((w1.alloc o1).alloc o2).alloc o3):=fun o1 o2 o3=>(((Ext.refl w1).alloc _).alloc _).alloc _
   refine ⟨xx _ _ _,by simp [go_sem],(Ext.cell (p:=⟨w.heap.size,0,none⟩) (xx _ _ _) z1).trans lb1,by simp [go_sem],⟨by simp,by simp; omega,by simp⟩,?_⟩
   exact ((RowAt.made w1 _ _ len).ext (((Ext.refl _).alloc _).alloc _))
  have con:CuCon w1 (w1.heap.size + 1) w.heap.size (w1.heap.size + 1 + 1) w1.heap.size:=⟨⟨by omega,by omega,by omega⟩,Nat.le_refl _⟩
  have CON:=Lib.hid con
  clear lb1 z1 con hmk
  generalize w1.heap.size + 1 + 1=b10 at C0 CON ⊢
  generalize w1.heap.size + 1=b9 at C0 CON ⊢
  generalize w.heap.size=b2 at C0 CON ⊢
  generalize w1.heap.size=gn at C0 CON ⊢
  go_loopw [12,13,32] (fun _ _ i wr=>∃ q M,q ≤ nr∧i=.int .i64 (q:Nat)∧CuMem w1 wr A cap len b9 b2 b10 gn M∧Marks l rs q M) (fun _ _ i _=>nr - (intOf i).toNat)
  case atStart=>exact ⟨0,_,Nat.zero_le _,rfl,C0.out _ _,Marks.start⟩
  case round =>
   clear C0
   obtain ⟨q,M,hq,rfl,st,mk⟩:=hrel
   have ST:=Lib.hid st
   have MK:=Lib.hid mk
   obtain ⟨z9,z2,z10⟩:=st.z
   have lb:=st.lb
   have zn:=st.row.lt
   by_cases hlq:q < nr
   ·have hql:q < rs.length:=by have:=HNR.out; omega
    obtain ⟨r,hr⟩:∃ r,r=rs.getD q ⟨#[]⟩:=⟨_,rfl⟩
    obtain ⟨bB,oB,hBe,hbB,cB⟩:=(HB.out.ext (X1.out.trans st.ext)).one hql
    subst hBe
    rw [← hr] at cB
    have HR:=Lib.hid hr
    clear st mk hr
    rcases index_spec l r with ⟨ei,_⟩ | ⟨k,ei,hkl,_⟩
    ·have EI:=Lib.hid ei
     clear ei
     go_wp2_with (first
      | (go_at_call 25
         refine (index_at _ cap l r _ HLn.out (HA.out.ext (X1.out.trans ST.out.ext)) (by omega)).mono ?_
         rw [EI.out]
         rintro e6 w6 ⟨rfl,x6⟩))
     go_ret2
     refine cutRet_none (cutE_none H0.out hql ?_).symm (by decide) ((X1.out.trans ST.out.ext).trans x6)
     have:=EI.out
     rw [HR.out] at this
     omega
    ·have EI:=Lib.hid ei
     have hkl2:k < len:=by have:=HLn.out; omega
     clear ei
     go_wp2_with (first
      | (go_at_call 25
         refine (index_at _ cap l r _ HLn.out (HA.out.ext (X1.out.trans ST.out.ext)) (by omega)).mono ?_
         rw [EI.out]
         rintro e6 w6 ⟨rfl,x6⟩
         have s6:=ST.out.ext' x6
         have v6:=s6.vb
         have y10:=s6.z.2.2
         have S6:=Lib.hid s6
         clear s6 x6)
      | (go_at_call 24
         refine (visit_at l w1 _ cap b9 b2 b10 gn HLn.out HV.out (HA.out.ext X1.out) CON.out M _ k hkl2 S6.out).mono ?_
         rintro e7 w7 ⟨rfl,M',s7,g7,o7⟩
         have S7:=Lib.hid s7
         have O7:=Lib.hid o7
         clear s7 g7 o7))
     refine ⟨⟨q + 1,M',by omega,by go_num,S7.out,MK.out.step hql (by rw [← HR.out]; exact EI.out) O7.out⟩,by simp [intOf]; omega⟩
   ·obtain rfl:q=nr:=by omega
    clear st mk
    go_wp2_with fail
    have NR:Hid (∀ i,M i=true ↔ Need l (Roots l rs) i):=fun i=>MK.out.end_ (by have:=HNR.out; omega) i
    have DN:=Lib.hid MK.out.done
    have T0:Hid (CutTo l (fun i=>M i=true) 0 []):=CutTo.start _ _
    clear z9 z2 z10 lb zn hq hlq MK
    generalize wr=wq at *
    go_loopw [14,15,16,47] (fun v _ _ i wr=>∃ k m,k ≤ len∧i=.int .i64 (k:Nat)∧ThSt wq wr v m∧CutTo l (fun i=>M i=true) k m) (fun _ _ _ i _=>len - (intOf i).toNat)
    case atStart=>exact ⟨0,[],Nat.zero_le _,rfl,ThSt.start _,T0.out⟩
    case round =>
     clear T0
     obtain ⟨k,m,hk,rfl,st,ct⟩:=hrel
     have TS:=Lib.hid st
     have CT:=Lib.hid ct
     have SU:=Lib.hid (ST.out.ext' st.ext)
     by_cases hlt:k < len
     ·obtain ⟨f,hf⟩:∃ f,f=l.getD k default:=⟨_,rfl⟩
      have hkl:k < l.length:=by have:=HLn.out; omega
      have hsn:Sane f.code:=sane_of HV.out (by rw [hf]; exact getD_mem hkl)
      have hfew:=hsn.few
      have hpos:=hsn.pos
      obtain ⟨b,off,hAe,hb,c0,c1,c2,c3,c4,c5,c6,c7,c8,hcd⟩:=(HA.out.ext (X1.out.trans (ST.out.ext.trans st.ext))).at_ (k:=k) hkl hf
      subst hAe
      obtain ⟨nc,hnc⟩:∃ nc,nc=f.code.length:=⟨_,rfl⟩
      have HNC:=Lib.hid hnc
      have HCD:=Lib.hid hcd
      have HF:=Lib.hid hf
      rw [← hnc] at c8 hfew hpos
      have nb:=SU.out.nb
      have n0:=SU.out.row.cell hlt
      obtain ⟨z9,z2,z10⟩:=SU.out.z
      have zn:=SU.out.row.lt
      clear hnc hsn hcd hf st ct
      cases hm:M k with
      | true =>
       rw [hm] at n0
       have HM:=Lib.hid hm
       clear hm
       go_wp2_with (first
        | (go_at_call 21
           refine (copied_any f.name f.params f.places f.ty f.A f.cap f.code _ HNC.out (HCD.out.ext exL) (by omega) hfew).mono ?_
           rintro r w2 ⟨gc,cap2,rfl,hg2,hr2,x2⟩
           have TS2:=Lib.hid ((TS.out.ext' ((Ext.refl _).alloc _)).ext' x2)
           have TS5:=Lib.hid (TS2.out.ext' ((Ext.refl w2).alloc (.cells #[.string f.name,.int .i64 f.params,.int .i64 f.places,.int .i64 f.ty.base,.int .i64 f.ty.bits,.string f.ty.name,.bool f.ty.opt,.bool f.ty.err,.slice (some ⟨gc,0,none⟩) nc cap2] 48)))
           obtain ⟨fN,hfN⟩:∃ fN:Fc,fN={ f with A:=some ⟨gc,0,none⟩,cap:=cap2 }:=⟨_,rfl⟩
           have HN:Hid ((List.range 9).map (fcC fN)=[.string f.name,.int .i64 f.params,.int .i64 f.places,.int .i64 f.ty.base,.int .i64 f.ty.bits,.string f.ty.name,.bool f.ty.opt,.bool f.ty.err,.slice (some ⟨gc,0,none⟩) nc cap2]):=by
            have e:fN.code.length=nc:=by rw [hfN]; exact HNC.out.symm
            have e2:(List.range 9).map (fcC fN)=[.string fN.name,.int .i64 fN.params,.int .i64 fN.places,.int .i64 fN.ty.base,.int .i64 fN.ty.bits,.string fN.ty.name,.bool fN.ty.opt,.bool fN.ty.err,.slice fN.A fN.code.length fN.cap]:=rfl
            rw [e2,e,hfN]
            exact Lib.hid rfl
           have HRN:Hid (CdRow (w2.alloc (.cells #[.string f.name,.int .i64 f.params,.int .i64 f.places,.int .i64 f.ty.base,.int .i64 f.ty.bits,.string f.ty.name,.bool f.ty.opt,.bool f.ty.err,.slice (some ⟨gc,0,none⟩) nc cap2] 48)) gc fN.code):=by
            rw [hfN]
            exact hr2.ext ((Ext.refl _).alloc _)
           have HFN:=Lib.hid hfN
           have hmn:m.length + 1 ≤ 48:=by have:=CT.out.1; have:=idx_len (fun i=>M i=true) k; omega
           clear hr2 x2 hg2 c0 c1 c2 c3 c4 c5 c6 c7 c8 nb n0 z9 z2 z10 zn hfN)
        | (at_builtin
           refine wpList_append_own _ rfl _ _ 22 rfl wq.heap.size 48 i0 _ 9 96 Tryz.underlying22 HI.out HZ0.out HZ1.out HZ2.out rfl (by decide) _ _ _ rfl TS5.out.own ⟨w2.heap.size,0,none⟩ 1 1 [.string f.name,.int .i64 f.params,.int .i64 f.places,.int .i64 f.ty.base,.int .i64 f.ty.bits,.string f.ty.name,.bool f.ty.opt,.bool f.ty.err,.slice (some ⟨gc,0,none⟩) nc cap2] rfl rfl ?c1 ?c2 ?c3 ?c4 ?c5 ?_))
       case c1 =>
        intro j2 u hj2
        rw [Addr.add_lit,Nat.zero_add]
        rw [(Blk.new w2 48 _).cell]
        simpa using hj2
       case c2=>rw [← HN.out]; exact fc_one fN
       case c3=>unfold maxLen; omega
       case c4=>omega
       case c5=>have:=TS5.out.ext.size; omega
       intro v' w7 ow7 g7 _
       rw [← HN.out] at ow7
       have ST7:=Lib.hid (TS5.out.pushed g7 ow7 (f:=fN) (by rw [HFN.out]) HRN.out)
       clear ow7 g7
       go_wp2_with fail
       exact ⟨⟨k + 1,m ++ [fN],by omega,by go_num,ST7.out,CT.out.in_ HM.out (by rw [← HF.out,HFN.out]; exact ⟨rfl,rfl,rfl,rfl,rfl⟩)⟩,by simp [intOf]; omega⟩
      | false =>
       rw [hm] at n0
       have HM:=Lib.hid hm
       clear hm
       go_wp2_with fail
       exact ⟨⟨k + 1,m,by omega,by go_num,TS.out.ext' ((Ext.refl _).alloc _),CT.out.out (by rw [HM.out]; decide)⟩,by simp [intOf]; omega⟩
     ·obtain rfl:k=len:=by omega
      obtain ⟨A',cap',hv,hfc⟩:=st.out
      subst hv
      clear st ct
      go_wp2_with fail
      go_ret2
      refine cutRet_some H0.out (fun p hp=>?_) hfc (by rw [← HLn.out]; exact CT.out) NR.out (X1.out.trans (ST.out.ext.trans TS.out.ext))
      obtain ⟨k2,e,_⟩:=DN.out p (by have:=HNR.out; omega)
      exact ⟨k2,e⟩
 ·have hb:((checkE l).2.2 != 0)=true:=by simpa using h0
  have HE:=Lib.hid (cutE_bad (rs:=rs) h0)
  have HH:=Lib.hid h0
  have HLR:Hid (∀ c,Value.slice A l.length c=.slice A l.length c):=Lib.hid fun _=>rfl
  generalize checkE l=ce at *
  obtain ⟨e1,e2,e3⟩:=ce
  simp only [] at hb HE HH HCC ⊢
  generalize l.length=len at *
  generalize rs.length=nr at *
  clear h0
  go_enter Tryz.func8,Tryz.ntmps8
  go_wp2_with (first
   | (go_at_call 20; refine (HCC.out _ exL).mono ?_; rintro r w1 ⟨rfl,x1⟩))
  go_ret2
  exact cutRet_none HE.out.symm HH.out exL
end Go.Proofs.YtcoookehfhhhdaaGreatDoor.c
