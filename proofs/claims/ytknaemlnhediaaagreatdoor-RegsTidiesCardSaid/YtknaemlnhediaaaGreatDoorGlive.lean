/- Contract of regs.live: which registers are live behind each instruction. Conditions: right code. -/
import Derived.Test.YtknaemlnhediaaaGreatDoorGjoin
import Derived.Deep.LoopGhost
import Derived.Deep.CutRange
namespace Go.Proofs.YtknaemlnhediaaaGreatDoor.c
open Go.RowKit
set_option linter.unusedVariables false
set_option maxRecDepth 100000
set_option maxHeartbeats 25600000
set_option linter.unusedSimpArgs false
theorem info_set_parts:∃ i,Tryz.prog.info? 175 = some i∧i.zero=some (.agg (setV fun _=>false))∧i.size=6∧i.bytes=6:=by
 have h:(Tryz.prog.info? 175).map (fun i=>(i.zero,i.size,i.bytes))=some (some (.agg (setV fun _=>false)),6,6):=by kernel_rfl
 cases hq:Tryz.prog.info? 175 with
 | none=>rw [hq] at h; cases h
 | some i =>
  rw [hq] at h
  have h2:=Option.some.inj h
  exact ⟨i,rfl,congrArg (·.1) h2,congrArg (·.2.1) h2,congrArg (·.2.2) h2⟩
def zsets (n:Nat):Array Value:=(List.replicate (n * 6) (Value.bool false)).toArray
theorem run_make_sets (w:World) (n:Nat) (hn:n ≤ 6001):(Instr.makeSlice 172 (.int .i64 n) (.int .i64 n)).run Tryz.prog w=.ok (.slice (some ⟨w.heap.size,0,none⟩) n n) (w.alloc (.cells (zsets n) 175)):=by
 obtain ⟨i,h1,h2,h3,h4⟩:=info_set_parts
 have h:=run_makeSlice (P:=Tryz.prog) (w:=w) 172 175 i _ (by kernel_rfl) h1 h2 .i64 .i64 n n (by omega) (Int.le_refl _) (by rw [Int.toNat_natCast,h3]; omega) (by rw [h4]; omega) (by omega)
 rw [Int.toNat_natCast,h3] at h
 have e:madeCells (Value.cells (.agg (setV fun _=>false))) (n * 6)=zsets n:=by
  apply Array.ext
  ·rw [size_madeCells]; simp [zsets]
  ·intro j h1 h2
   have hz:(#[.bool false,.bool false,.bool false,.bool false,.bool false,.bool false]:Array Value)[j % 6]! = .bool false:=by
    rcases (show j % 6=0 ∨ j % 6=1 ∨ j % 6=2 ∨ j % 6=3 ∨ j % 6=4 ∨ j % 6=5 by omega) with e | e | e | e | e | e <;> rw [e] <;> rfl
   simp [madeCells,zsets,setV]
   exact hz
 rw [e] at h
 exact h
theorem sets_row {w:World} {g n:Nat} (h:Blk w g 175 (zsets n)):RecRow w g 175 6 setC (List.replicate n fun _=>false):=by
 refine ⟨_,h,by simp [zsets],fun k j hk hj=>?_⟩
 simp only [List.length_replicate] at hk
 have e:(List.replicate n fun (_:Nat)=>false).getD k default=fun _=>false:=by rw [List.getD,List.getElem?_replicate,if_pos hk]; rfl
 rw [e]
 have:k * 6 + j < n * 6:=by omega
 simp [zsets,setC,this]
theorem glive_any (l:List Rf) (f:Rf) (w:World) (g:GoodF l f) (hC:RgAt w f.A f.code) :
  Calls Tryz.prog 115 #[f.val] w fun e w'=>∃ (b:Nat) (H:List (Nat → Bool)),w.heap.size ≤ b∧e=.returned (.slice (some ⟨b,0,none⟩) f.code.length f.code.length)∧H.length=f.code.length∧RecRow w' b 175 6 setC H∧(∀ p,p < f.code.length → ∀ r,r < 6 → tabB H p r=liveB f.code p (r:Nat))∧Ext w w':=by
 obtain ⟨n,hn⟩:∃ n,n=f.code.length:=⟨_,rfl⟩
 have hfew:n ≤ 6000:=by have:=g.few; omega
 unfold Rf.val
 rw [← hn]
 have HC:=Lib.hid hC
 have HG:=Lib.hid g
 have HN:=Lib.hid hn
 obtain ⟨fa,hfa⟩:∃ fa,fa=f.A:=⟨_,rfl⟩
 rw [← hfa] at HC ⊢
 clear hC g hn hfa
 have hw1:IntKind.i64.wrap ((n:Int) + 1)=((n + 1:Nat):Int):=by rw [IntWalk.i64_in _ (by omega)]; omega
 go_enter Tryz.func115,Tryz.ntmps115
 go_wp2_with fail
 have HST:∀ (i k:Nat) (v:Value) (_:i ≠ 2:=by decide) (_:i ≠ 4:=by decide) (_:k ≠ 20:=by decide) (_:k ≠ 22:=by decide) (l':Array Bool) (b':Act) (w':World),M2 (w.alloc (.cells #[.string f.name,.int .i64 f.params,.int .i64 f.regs,.int .i64 f.ty.base,.int .i64 f.ty.bits,.string f.ty.name,.bool f.ty.opt,.bool f.ty.err,.slice fa n f.cap] 59)) 175 (zsets (n + 1)) (zsets n) (fun g=>.slice (some ⟨g,0,none⟩) (n + 1) (n + 1)) (fun g=>.slice (some ⟨g,0,none⟩) n n) 2 4 20 22 (l'.setIfInBounds i true) (b'.put (some k) v) w' ↔ M2 (w.alloc (.cells #[.string f.name,.int .i64 f.params,.int .i64 f.regs,.int .i64 f.ty.base,.int .i64 f.ty.bits,.string f.ty.name,.bool f.ty.opt,.bool f.ty.err,.slice fa n f.cap] 59)) 175 (zsets (n + 1)) (zsets n) (fun g=>.slice (some ⟨g,0,none⟩) (n + 1) (n + 1)) (fun g=>.slice (some ⟨g,0,none⟩) n n) 2 4 20 22 l' b' w':=fun i k v h1 h2 h3 h4 l' b' w'=>M2.same h1 h2 h3 h4 v l' b' w'
 refine flow2_begin (M2 (w.alloc (.cells #[.string f.name,.int .i64 f.params,.int .i64 f.regs,.int .i64 f.ty.base,.int .i64 f.ty.bits,.string f.ty.name,.bool f.ty.opt,.bool f.ty.err,.slice fa n f.cap] 59)) 175 (zsets (n + 1)) (zsets n) (fun g=>.slice (some ⟨g,0,none⟩) (n + 1) (n + 1)) (fun g=>.slice (some ⟨g,0,none⟩) n n) 2 4 20 22) #[false,false,false,false,false,false,false] rfl (by kernel_rfl) (fun _ _ _ _ _ h=>h) ((M2.start (Ext.refl _).drew (by rfl) (by rfl))) (fun HQ=>?_)
 (refine flow2_take (i:=0) (t:=18) (oi:=⟨some 18,_,_,_,_,_⟩) (v:=?_) rfl rfl (by kernel_rfl) (by kernel_rfl) (by kernel_rfl) HQ (HST 0 18 _) (Or.inl ⟨by rfl,fun l b' w' hF=>?_⟩) ?_; rotate_left; (focus (go_simp; try with_reducible rfl)); try simp only [putL,List.set])
 (refine flow2_take (i:=1) (t:=19) (oi:=⟨some 19,_,_,_,_,_⟩) (v:=?_) rfl rfl (by kernel_rfl) (by kernel_rfl) (by kernel_rfl) HQ (HST 1 19 _) (Or.inl ⟨by rfl,fun l b' w' hF=>?_⟩) ?_; rotate_left; (focus (go_simp; try with_reducible rfl)); try simp only [putL,List.set])
 (refine flow2_take (i:=3) (t:=21) (oi:=⟨some 21,_,_,_,_,_⟩) (v:=?_) rfl rfl (by kernel_rfl) (by kernel_rfl) (by kernel_rfl) HQ (HST 3 21 _) (Or.inl ⟨by rfl,fun l b' w' hF=>?_⟩) ?_; rotate_left; (focus (go_simp; try with_reducible rfl)); try simp only [putL,List.set])
 have i1:∀ g g':Nat,(Value.slice (some ⟨g,0,none⟩) (n + 1) (n + 1))=.slice (some ⟨g',0,none⟩) (n + 1) (n + 1) → g=g':=fun g g' e=>by cases e; rfl
 have i2:∀ g g':Nat,(Value.slice (some ⟨g,0,none⟩) n n)=.slice (some ⟨g',0,none⟩) n n → g=g':=fun g g' e=>by cases e; rfl
 have HM:Hid (∀ w:World,(Instr.makeSlice 172 (.int .i64 ((n:Int) + 1)) (.int .i64 ((n:Int) + 1))).run Tryz.prog w=.ok (.slice (some ⟨w.heap.size,0,none⟩) (n + 1) (n + 1)) (w.alloc (.cells (zsets (n + 1)) 175))):=fun w=>by have h:=run_make_sets w (n + 1) (by omega); rwa [show ((n + 1:Nat):Int)=(n:Int) + 1 by omega] at h
 have HM2:Hid (∀ w:World,(Instr.makeSlice 172 (.int .i64 n) (.int .i64 n)).run Tryz.prog w=.ok (.slice (some ⟨w.heap.size,0,none⟩) n n) (w.alloc (.cells (zsets n) 175))):=fun w=>run_make_sets w n (by omega)
 refine flow2_makes (i:=2) (k:=4) (s:=5) (r:=6) (t:=20) (u:=22) (c:=4) (d:=5) (oi:=⟨some 20,_,_,_,_,_⟩) (ok:=⟨some 22,_,_,_,_,_⟩) (V:=fun g=>.slice (some ⟨g,0,none⟩) (n + 1) (n + 1)) (U:=fun g=>.slice (some ⟨g,0,none⟩) n n) (ob:=.cells (zsets (n + 1)) 175) (pb:=.cells (zsets n) 175) (by kernel_rfl) (by kernel_rfl) (by kernel_rfl) (by decide) (by decide) rfl rfl rfl rfl (by rfl) (fun g=>by rfl) (by rfl) (fun g=>by rfl)
  (fun w=>?h1) (fun g w=>?h2) (fun w=>?h3) (fun g w=>?h4) (fun w hF=>M2.one i1 i2 hF (by rfl) (by decide) (by decide) (n:=92) (by decide) rfl) (fun g w hF=>M2.two i1 i2 hF (by rfl) (by decide) (by decide) (n:=92) (by decide) rfl)
  (fun w hF=>M2.two i1 i2 hF (by rfl) (by decide) (by decide) (n:=92) (by decide) rfl) (fun g w hF=>M2.one i1 i2 hF (by rfl) (by decide) (by decide) (n:=92) (by decide) rfl)
  (fun g h=>(flow2_take (i:=5) (t:=4) (oi:=⟨some 4,_,_,_,_,_⟩) (v:=.slice (some ⟨g,0,none⟩) (n + 1) (n + 1)) rfl rfl (by kernel_rfl) (by kernel_rfl) (by kernel_rfl) HQ (HST 5 4 _) (Or.inl ⟨by rfl,fun l b' w' hF=>by go_simp; try with_reducible rfl⟩) h)) (fun g g' h=>(flow2_take (i:=6) (t:=5) (oi:=⟨some 5,_,_,_,_,_⟩) (v:=.slice (some ⟨g',0,none⟩) n n) rfl rfl (by kernel_rfl) (by kernel_rfl) (by kernel_rfl) HQ (HST 6 5 _) (Or.inl ⟨by rfl,fun l b' w' hF=>by go_simp; try with_reducible rfl⟩) h)) (fun g g' h=>(flow2_take (i:=5) (t:=4) (oi:=⟨some 4,_,_,_,_,_⟩) (v:=.slice (some ⟨g,0,none⟩) (n + 1) (n + 1)) rfl rfl (by kernel_rfl) (by kernel_rfl) (by kernel_rfl) HQ (HST 5 4 _) (Or.inl ⟨by rfl,fun l b' w' hF=>by go_simp; try with_reducible rfl⟩) h)) (fun g1 g2=>?rest)
 case h1=>go_simp; simp only [HM.out]; rfl
 case h2=>go_simp; simp only [HM.out]; rfl
 case h3=>go_simp; simp only [HM2.out]; rfl
 case h4=>go_simp; simp only [HM2.out]; rfl
 case rest =>
  try simp only [Act.put,List.setIfInBounds_toArray,List.set_cons_zero,List.set_cons_succ]
  refine flow2_done (by kernel_rfl) (fun w4 hF=>?_)
  obtain ⟨x4,hne,z1,z2,b1,b2⟩:=M2.get (g:=g1) (g':=g2) i1 i2 hF (by rfl) (by rfl) (by rfl) (by rfl)
  obtain ⟨bf,hbf⟩:∃ bf,bf=w.heap.size:=⟨_,rfl⟩
  have hst:LvSt w bf g1 g2 #[.string f.name,.int .i64 f.params,.int .i64 f.regs,.int .i64 f.ty.base,.int .i64 f.ty.bits,.string f.ty.name,.bool f.ty.opt,.bool f.ty.err,.slice fa n f.cap] (List.replicate (n + 1) fun _=>false) (List.replicate n fun _=>false) w4:=by
   have bb:=(Blk.new w 59 #[.string f.name,.int .i64 f.params,.int .i64 f.regs,.int .i64 f.ty.base,.int .i64 f.ty.bits,.string f.ty.name,.bool f.ty.opt,.bool f.ty.err,.slice fa n f.cap]).ext x4
   have zz:w.heap.size + 1 ≤ g1∧w.heap.size + 1 ≤ g2:=by simpa using And.intro z1 z2
   exact ⟨((Ext.refl w).alloc _).trans x4,by rw [hbf]; exact bb,sets_row b1,sets_row b2,⟨hne,by omega,by omega⟩,by omega,by omega,by omega⟩
  have HT:Hid (TabOk f.code (List.replicate (n + 1) fun _=>false)):=by have h:=tbl_start f.code; rwa [← HN.out] at h
  have HS:=Lib.hid hst
  rw [← hbf]
  clear hst x4 hne z1 z2 b1 b2 hF HST HM HM2 i1 i2 hbf
  go_wp2_with fail
  go_loopg [6] (6 * n + 2) (fun k v wr=>∃ (again:Bool) (T H:List (Nat → Bool)),v=.bool again∧H.length=n∧TabOk f.code T∧LvSt w bf g1 g2 #[.string f.name,.int .i64 f.params,.int .i64 f.regs,.int .i64 f.ty.base,.int .i64 f.ty.bits,.string f.ty.name,.bool f.ty.opt,.bool f.ty.err,.slice fa n f.cap] T H wr∧(bif again then 6 * n + 2 - cntT T n else 6 * n + 1 - cntT T n) ≤ k∧(again=false → RndOk f.code T H 0))
  case atStart=>exact ⟨true,_,_,rfl,by simp,HT.out,HS.out,by simp,fun h=>by cases h⟩
  case round =>
   clear HS HT
   obtain ⟨again,T,H,rfl,hHl,hT,hs,hk,hfix⟩:=hrel
   have HT:=Lib.hid hT
   have HS:=Lib.hid hs
   have HHL:=Lib.hid hHl
   have HFX:=Lib.hid hfix
   clear hHl hT hs hfix
   cases again
   ·go_wp2_with fail
    go_ret
    exact ⟨g2,HS.out.lo.2.2,rfl,H,HHL.out,HS.out.behind,fun p hp r hr=>RndOk.live HT.out (HFX.out (by simp)) (by rw [← HN.out]; exact hp) hr,HS.out.ext⟩
   ·have hw2:IntKind.i64.wrap ((n:Int) - 1)=(n:Int) - 1:=IntWalk.i64_in _ (by omega)
    rename World=>wo
    go_wp2_with fail
    go_loopw [6,7] (fun v i wq=>∃ (ag:Bool) (q:Nat) (T2 H2:List (Nat → Bool)),q ≤ n∧i=.int .i64 ((q:Int) - 1)∧v=.bool ag∧H2.length=n∧TabOk f.code T2∧LvSt w bf g1 g2 #[.string f.name,.int .i64 f.params,.int .i64 f.regs,.int .i64 f.ty.base,.int .i64 f.ty.bits,.string f.ty.name,.bool f.ty.opt,.bool f.ty.err,.slice fa n f.cap] T2 H2 wq∧cntT T n + (bif ag then 1 else 0) ≤ cntT T2 n∧(ag=false → RndOk f.code T2 H2 q)) (fun _ i _=>(intOf i + 1).toNat)
    case atStart=>exact ⟨false,n,T,H,Nat.le_refl _,by simp,rfl,HHL.out,HT.out,HS.out,by simp,fun _ p h1 h2=>absurd h2 (by have:=HN.out; omega)⟩
    case round =>
     clear HS HT HHL HFX
     obtain ⟨ag,q,T2,H2,hq,rfl,rfl,hHl,hT,hs,hcn,hfix⟩:=hrel
     have HT2:=Lib.hid hT
     have HS2:=Lib.hid hs
     have HHL2:=Lib.hid hHl
     have HFX2:=Lib.hid hfix
     have HCN:=Lib.hid hcn
     clear hHl hT hs hfix hcn
     by_cases hq0:q=0
     ·subst hq0
      have hneg:¬ (0:Int) ≤ ((0:Nat):Int) - 1:=by omega
      have hc1:=cntT_le T2 n
      have hc2:=HCN.out
      go_wp2_with fail
      go_roundg (gk - 1)
      case measure=>rw [cond_true] at hk; cases ag <;> simp only [cond_true,cond_false] at hc2 <;> omega
      case rel=>exact ⟨ag,T2,H2,rfl,HHL2.out,HT2.out,HS2.out,by rw [cond_true] at hk; cases ag <;> simp only [cond_true,cond_false] at hc2 ⊢ <;> omega,fun h=>HFX2.out h⟩
     ·obtain ⟨p,rfl⟩:∃ p,q=p + 1:=⟨q - 1,by omega⟩
      have ei:(((p + 1:Nat):Int) - 1)=(p:Int):=by omega
      rw [ei]
      have hpn:p < n:=by omega
      have hpl:p < f.code.length:=by have:=HN.out; omega
      obtain ⟨b,off,rfl,_,_⟩:=HC.out.top (by omega)
      obtain ⟨x,hx⟩:∃ x,x=f.code.getD p default:=⟨_,rfl⟩
      obtain ⟨hb1,d0,d1,d2,d3,d4,d5,d6,d7,d8,d9,d10⟩:=(HC.out.ext HS2.out.ext).cells hpl hx
      have c8:=HS2.out.box.cell 8
      simp only [List.getElem?_toArray,List.getElem?_cons_zero,List.getElem?_cons_succ] at c8
      have zb:=HS2.out.box.lt
      have HZ:Hid ((Tryz.prog.info? 67).map (·.size)=some 11):=by unfold Hid; kernel_rfl
      have HZ6:Hid ((Tryz.prog.info? 175).map (·.size)=some 6):=by unfold Hid; kernel_rfl
      have HX:=Lib.hid hx
      have gx:=HG.out.at_ (show x ∈ f.code by rw [hx]; exact getD_mem hpl)
      have GX:=Lib.hid gx
      have hop:isOpB x.op=true:=by
       have h:=gx.op
       unfold isOpB
       simp only [Bool.or_eq_true,inB_iff]
       omega
      obtain ⟨dv,hdv⟩:∃ dv,x.d=dv:=⟨_,rfl⟩
      have HDV:=Lib.hid hdv
      obtain ⟨wb,hwb⟩:∃ wb,writesR x=wb:=⟨_,rfl⟩
      have HWB:=Lib.hid hwb
      obtain ⟨dw,hdw⟩:∃ dw,dw=if wb=true then dv else 0:=⟨_,rfl⟩
      have HDW:=Lib.hid hdw
      obtain ⟨gb,hgb⟩:∃ gb,goesR x.op=gb:=⟨_,rfl⟩
      have HGB:=Lib.hid hgb
      obtain ⟨lb,hlb⟩:∃ lb,leadsR x.op=lb:=⟨_,rfl⟩
      have HLB:=Lib.hid hlb
      have HGO:Hid (∀ w1,Calls Tryz.prog 148 #[.int .i64 x.op] w1 fun e w'=>e=.returned (.bool gb)∧w1=w'):=fun w1=>by have h:=ggoes_any x.op w1; rwa [hgb] at h
      have HLE:Hid (∀ w1,Calls Tryz.prog 163 #[.int .i64 x.op] w1 fun e w'=>e=.returned (.bool lb)∧w1=w'):=fun w1=>by have h:=gleads_any x.op w1; rwa [hlb] at h
      have HWR:Hid (∀ w1,Calls Tryz.prog 102 #[.agg #[.int .i64 x.op,.int .i64 dv,.int .i64 x.a,.int .i64 x.b,.int .i64 x.ty.base,.int .i64 x.ty.bits,.string x.ty.name,.bool x.ty.opt,.bool x.ty.err,.string x.name,.slice x.A x.args.length x.cap]] w1 fun e w'=>e=.returned (.tuple #[.int .i64 dw,.bool wb])∧Ext w1 w'):=fun w1=>by
       have h:=gwrites_any x w1 hop
       rwa [hwb,hdv,← hdw] at h
      have HUS:Hid (∀ w1,Calls Tryz.prog 99 #[.agg #[.int .i64 x.op,.int .i64 dv,.int .i64 x.a,.int .i64 x.b,.int .i64 x.ty.base,.int .i64 x.ty.bits,.string x.ty.name,.bool x.ty.opt,.bool x.ty.err,.string x.name,.slice x.A x.args.length x.cap]] w1 fun e w'=>∃ A c,e=.returned (.slice A (usesL x).length c)∧Ext w1 w'∧NumsAt w' A (usesL x)):=fun w1=>by
       have h:=guses_any x w1 hop
       unfold UsesZ at h
       rw [uses_eq (by have:=HG.out.reg; omega) gx.a gx.b,hdv] at h
       exact h
      rw [hdv] at d1
      clear hdv
      clear hx gx hop hwb hgb hlb hdw
      go_wp2_with fail
      have I0:Hid (InSt w bf g1 g2 wr.heap.size (wr.heap.size + 1) #[.string f.name,.int .i64 f.params,.int .i64 f.regs,.int .i64 f.ty.base,.int .i64 f.ty.bits,.string f.ty.name,.bool f.ty.opt,.bool f.ty.err,.slice (some ⟨b,off,none⟩) n f.cap] T2 H2 x (fun _=>false) ((wr.alloc (.cells #[.int .i64 x.op,.int .i64 dv,.int .i64 x.a,.int .i64 x.b,.int .i64 x.ty.base,.int .i64 x.ty.bits,.string x.ty.name,.bool x.ty.opt,.bool x.ty.err,.string x.name,.slice x.A x.args.length x.cap] 67)).alloc (.cells #[.bool false,.bool false,.bool false,.bool false,.bool false,.bool false] 175))):=by
       have a1:=HS2.out.box.lt
       have a2:=HS2.out.before.lt
       have a3:=HS2.out.behind.lt
       have a5:=HS2.out.ext.size
       have b1:=(Blk.new wr 67 #[.int .i64 x.op,.int .i64 dv,.int .i64 x.a,.int .i64 x.b,.int .i64 x.ty.base,.int .i64 x.ty.bits,.string x.ty.name,.bool x.ty.opt,.bool x.ty.err,.string x.name,.slice x.A x.args.length x.cap]).alloc (.cells #[.bool false,.bool false,.bool false,.bool false,.bool false,.bool false] 175)
       have b2:=Blk.new (wr.alloc (.cells #[.int .i64 x.op,.int .i64 dv,.int .i64 x.a,.int .i64 x.b,.int .i64 x.ty.base,.int .i64 x.ty.bits,.string x.ty.name,.bool x.ty.opt,.bool x.ty.err,.string x.name,.slice x.A x.args.length x.cap] 67)) 175 #[.bool false,.bool false,.bool false,.bool false,.bool false,.bool false]
       rw [← HDV.out] at b1 b2 ⊢
       simp only [size_alloc] at b2
       exact ⟨HS2.out.ext' (((Ext.refl _).alloc _).alloc _),b1,b2,⟨by omega,by omega,by omega,by omega,by omega,by omega⟩,by omega⟩
      generalize ((wr.alloc (.cells #[.int .i64 x.op,.int .i64 dv,.int .i64 x.a,.int .i64 x.b,.int .i64 x.ty.base,.int .i64 x.ty.bits,.string x.ty.name,.bool x.ty.opt,.bool x.ty.err,.string x.name,.slice x.A x.args.length x.cap] 67)).alloc (.cells #[.bool false,.bool false,.bool false,.bool false,.bool false,.bool false] 175))=w4 at I0 ⊢
      generalize wr.heap.size + 1=bo at I0 ⊢
      generalize wr.heap.size=bx at I0 ⊢
      clear d0 d1 d2 d3 d4 d5 d6 d7 d8 d9 d10 c8 zb hb1
      obtain ⟨e0,e1,e2,e3,e4,e5,e6,e7,e8,e9,e10⟩:=rgA_cells I0.out.inst
      have zbx:=I0.out.inst.lt
      clear e1 e2 e3 e4 e5 e6 e7 e8 e9 e10
      go_upto_if 38 with (first | (go_at_call 148; refine (HGO.out _).mono ?_; rintro r w' ⟨rfl,rfl⟩))
      go_cut [] from 26 to 90 (fun wx=>InSt w bf g1 g2 bx bo #[.string f.name,.int .i64 f.params,.int .i64 f.regs,.int .i64 f.ty.base,.int .i64 f.ty.bits,.string f.ty.name,.bool f.ty.opt,.bool f.ty.err,.slice (some ⟨b,off,none⟩) n f.cap] T2 H2 x (fun r=>gb && T2.getD (p + 1) default r) wx)
      case first =>
       cases gb
       ·go_wp2_with fail
        go_meet
        case rel=>exact I0.out.same fun r _=>rfl
       ·have hpg:p + 1 < f.code.length:=HG.out.next hpl (by rw [← HX.out]; exact HGB.out)
        have hpt:p + 1 < T2.length:=by rw [HT2.out.len]; omega
        obtain ⟨s1,hs1⟩:∃ s1,s1=T2.getD (p + 1) default:=⟨_,rfl⟩
        obtain ⟨y0,y1,y2,y3,y4,y5⟩:=I0.out.st.before.six hpt hs1
        have zg:=I0.out.st.before.lt
        have HS1:=Lib.hid hs1
        clear hs1
        have hpn1:p + 1 < n:=by have:=HN.out; omega
        have hw3:IntKind.i64.wrap ((p:Int) + 1)=(p:Int) + 1:=IntWalk.i64_in _ (by omega)
        have HJN:Hid (Calls Tryz.prog 184 #[.agg #[.bool (s1 0),.bool (s1 1),.bool (s1 2),.bool (s1 3),.bool (s1 4),.bool (s1 5)],.pointer (some ⟨bo,0,none⟩)] w4 fun e w'=>e=.returned (.tuple #[])∧Blk w' bo 175 (setV fun r=>false || s1 r)∧w4.grownBy w' (some bo)):=join_any s1 (fun _=>false) bo _ I0.out.set
        go_wp2_with (first
         | (go_at_call 184
            (with_reducible refine (HJN.out).mono ?_)
            rintro e w5 ⟨rfl,b5,g5⟩
            have I1:=Lib.hid (I0.out.grown b5 g5)))
        go_meet
        case rel=>rw [HS1.out] at I1; exact I1.out.same fun r _=>by simp
      case rest =>
       have I1:=Lib.hid hcut
       obtain ⟨e0,e1,e2,e3,e4,e5,e6,e7,e8,e9,e10⟩:=rgA_cells I1.out.inst
       have zbx:=I1.out.inst.lt
       clear e1 e2 e3 e4 e5 e6 e7 e8 e9 e10 hcut I0
       go_upto_if 48 with (first | (go_at_call 163; refine (HLE.out _).mono ?_; rintro r w' ⟨rfl,rfl⟩))
       go_cut [] from 26 to 90 (fun wx=>InSt w bf g1 g2 bx bo #[.string f.name,.int .i64 f.params,.int .i64 f.regs,.int .i64 f.ty.base,.int .i64 f.ty.bits,.string f.ty.name,.bool f.ty.opt,.bool f.ty.err,.slice (some ⟨b,off,none⟩) n f.cap] T2 H2 x (outS T2 x p) wx)
       case first =>
        cases lb
        ·go_wp2_with fail
         go_meet
         case rel =>
          refine I1.out.same fun r hr=>?_
          unfold outS outT tabB
          rw [HGB.out,HLB.out,decide_eq_true hr,Bool.true_and,Bool.false_and,Bool.or_false]
          cases gb
          ·rfl
          ·have hpt:p + 1 < T2.length:=by rw [HT2.out.len]; have:=HN.out; omega
           rw [List.getD,List.getD,List.getElem?_eq_getElem hpt]
           rfl
        ·have h3:(partsR x.op).1=3:=by
          have h:=HLB.out
          unfold leadsR at h
          simp only [Bool.or_eq_true,beq_iff_eq] at h
          rcases h with h | h | h | h <;> rw [h] <;> rfl
         have hd:=GX.out.d
         rw [h3] at hd
         have hd2:=isPartB_place hd
         rw [HDV.out] at hd2
         obtain ⟨dn,hdn⟩:∃ dn:Nat,dv=dn:=⟨dv.toNat,by omega⟩
         have hdt:dn < T2.length:=by rw [HT2.out.len]; omega
         have hdn1:dn < n + 1:=by have:=HN.out; omega
         obtain ⟨s1,hs1⟩:∃ s1,s1=T2.getD dn default:=⟨_,rfl⟩
         obtain ⟨y0,y1,y2,y3,y4,y5⟩:=I1.out.st.before.six hdt hs1
         have zg:=I1.out.st.before.lt
         have HS1:=Lib.hid hs1
         have HDN:=Lib.hid hdn
         obtain ⟨e0,e1,e2,e3,e4,e5,e6,e7,e8,e9,e10⟩:=rgA_cells I1.out.inst
         rw [HDV.out,hdn] at e1
         have HJN:Hid (Calls Tryz.prog 184 #[.agg #[.bool (s1 0),.bool (s1 1),.bool (s1 2),.bool (s1 3),.bool (s1 4),.bool (s1 5)],.pointer (some ⟨bo,0,none⟩)] wc fun e w'=>e=.returned (.tuple #[])∧Blk w' bo 175 (setV fun r=>(gb && T2.getD (p + 1) default r) || s1 r)∧wc.grownBy w' (some bo)):=join_any s1 (fun r=>gb && T2.getD (p + 1) default r) bo _ I1.out.set
         clear hs1 hdn h3 hd hd2 e2 e3 e4 e5 e6 e7 e8 e9 e10
         go_wp2_with (first
          | (go_at_call 184
             (with_reducible refine (HJN.out).mono ?_)
             rintro e w5 ⟨rfl,b5,g5⟩
             have I2:=Lib.hid (I1.out.grown b5 g5)))
         go_meet
         case rel =>
          refine I2.out.same fun r hr=>?_
          unfold outS outT tabB
          rw [HGB.out,HLB.out,decide_eq_true hr,Bool.true_and,Bool.true_and,HS1.out,HDV.out,HDN.out,Int.toNat_natCast]
          rfl
       case rest =>
        clear I1
        have I2:=Lib.hid hcut
        clear hcut
        obtain ⟨o2,ho2⟩:∃ o2,o2=outS T2 x p:=⟨_,rfl⟩
        rw [← ho2] at I2
        have HO2:=Lib.hid ho2
        clear ho2
        have hph:p < H2.length:=by have:=HHL2.out; omega
        obtain ⟨y0,y1,y2,y3,y4,y5⟩:=I2.out.set.six
        have zbo:=I2.out.set.lt
        go_upto_if 65 with (first
         | ((with_reducible show wpList _ _ _ (Oper.mk none (.store 175 (.tmp 59) (.tmp 58)) _ _ _ _ :: _) _ _)
            refine wpList_store_mid rfl 175 _ _ rfl g2 (p * 6) (setV o2) rfl rfl (I2.out.st.behind.there hph) HZ6.out (setV_one _) ?_
            have I3:=Lib.hid (I2.out.putH hph o2)
            generalize World.setCells _ g2 (p * 6) (setV o2).toList=w6 at I3 ⊢
            clear y0 y1 y2 y3 y4 y5 zbo
            obtain ⟨e0,e1,e2,e3,e4,e5,e6,e7,e8,e9,e10⟩:=rgA_cells I3.out.inst
            rw [HDV.out] at e1
            have zbx:=I3.out.inst.lt)
         | (go_at_call 102
            (with_reducible refine (HWR.out _).mono ?_)
            rintro r w7 ⟨rfl,x7⟩
            have I4:=Lib.hid (I3.out.ext' x7)
            clear x7 e0 e1 e2 e3 e4 e5 e6 e7 e8 e9 e10 zbx))
        go_cut [] from 26 to 90 (fun wx=>InSt w bf g1 g2 bx bo #[.string f.name,.int .i64 f.params,.int .i64 f.regs,.int .i64 f.ty.base,.int .i64 f.ty.bits,.string f.ty.name,.bool f.ty.opt,.bool f.ty.err,.slice (some ⟨b,off,none⟩) n f.cap] T2 (H2.set p o2) x (fun r=>o2 r && !(wb && decide (r=dv.toNat))) wx)
        case first =>
         cases wb
         ·go_wp2_with fail
          go_meet
          case rel=>exact I4.out.same fun r _=>by simp
         ·have hd:=GX.out.d
          have hw1:(partsR x.op).1=1:=by
           have h:=HWB.out
           unfold writesR at h
           simpa using h
          rw [hw1] at hd
          have hd2:=isPartB_reg hd
          rw [HDV.out] at hd2
          have hdw:dw=dv:=by have h:=HDW.out; rwa [if_pos rfl] at h
          obtain ⟨dn,hdn⟩:∃ dn:Nat,dv=dn:=⟨dv.toNat,by omega⟩
          rw [hdn] at hdw
          have hd6:dn < 6:=by have:=HG.out.reg; omega
          have HDN:=Lib.hid hdn
          subst hdw
          have n0:=I4.out.set.cell dn
          rw [setV_get hd6] at n0
          have f0:=I4.out.set.frozen dn
          have z0:=I4.out.set.lt
          clear hdn hd hw1 hd2
          go_wp2_with fail
          go_meet
          case rel =>
           refine (I4.out.one hd6 false).same fun r hr=>?_
           rw [HDN.out,Int.toNat_natCast,Bool.true_and]
           unfold updB
           by_cases e:r=dn
           ·subst e; simp
           ·rw [if_neg e,decide_eq_false e]; simp
        case rest =>
         have I5:=Lib.hid hcut
         clear hcut I2
         obtain ⟨o3,ho3⟩:∃ o3,o3=(fun r=>o2 r && !(wb && decide (r=dv.toNat))):=⟨_,rfl⟩
         rw [← ho3] at I5
         have HIN:Hid (∀ r,r < 6 → (o3 r || decide ((r:Int) ∈ usesL x))=inS T2 x p r):=fun r hr=>by
          rw [usesL_iff hr,ho3]
          unfold inS inT wrB
          rw [HWB.out,HDV.out,decide_eq_true hr,Bool.true_and,HO2.out]
          unfold outS
          dsimp only
          rw [decide_eq_true hr,Bool.true_and]
          have e:decide (r=dv.toNat)=(dv == (r:Int)) ∨ wb=false:=by
           cases wb
           ·exact .inr rfl
           ·refine .inl ?_
            have hd:=GX.out.d
            have hw1:(partsR x.op).1=1:=by
             have h:=HWB.out
             unfold writesR at h
             simpa using h
            rw [hw1] at hd
            have hd2:=isPartB_reg hd
            rw [HDV.out] at hd2
            rw [Bool.eq_iff_iff,decide_eq_true_iff,beq_iff_eq]
            omega
          rcases e with e | e
          ·rw [e,Bool.and_comm (x:=outT _ _ _ _),Bool.or_comm]
          ·rw [e,Bool.false_and,Bool.false_and,Bool.not_false,Bool.and_true,Bool.true_and,Bool.or_comm]
         clear ho3
         obtain ⟨L,hL⟩:∃ L,L=usesL x:=⟨_,rfl⟩
         have HL6:Hid (∀ r,r ∈ L → 0 ≤ r∧r < 6):=fun r hr=>by rw [hL] at hr; exact ⟨(usesL_in hr).1,(usesL_in hr).2.1⟩
         have HLL:Hid (L.length ≤ 6):=by unfold Hid; rw [hL]; exact usesL_len x
         rw [← hL] at HUS HIN
         clear hL
         obtain ⟨ln,hln⟩:∃ ln,ln=L.length:=⟨_,rfl⟩
         rw [← hln] at HUS HLL
         have HLN:=Lib.hid hln
         have hl6:ln ≤ 6:=HLL.out
         clear hln
         obtain ⟨e0,e1,e2,e3,e4,e5,e6,e7,e8,e9,e10⟩:=rgA_cells I5.out.inst
         rw [HDV.out] at e1
         have zbx:=I5.out.inst.lt
         go_wp2_with (first
          | (go_at_call 99
             (with_reducible refine (HUS.out _).mono ?_)
             rintro r w8 ⟨A8,c8,rfl,x8,nums⟩
             have NU:=Lib.hid nums
             have I6:=Lib.hid (I5.out.ext' x8)
             clear x8 nums))
         clear e0 e1 e2 e3 e4 e5 e6 e7 e8 e9 e10 zbx I5
         go_loopw [71] (fun i wq=>∃ j:Nat,j ≤ ln∧i=.int .i64 j∧InSt w bf g1 g2 bx bo #[.string f.name,.int .i64 f.params,.int .i64 f.regs,.int .i64 f.ty.base,.int .i64 f.ty.bits,.string f.ty.name,.bool f.ty.opt,.bool f.ty.err,.slice (some ⟨b,off,none⟩) n f.cap] T2 (H2.set p o2) x (fun r=>o3 r || decide ((r:Int) ∈ L.take j)) wq∧NumsAt wq A8 L) (fun i _=>ln - (intOf i).toNat)
         case atStart=>exact ⟨0,Nat.zero_le _,rfl,I6.out.same fun r _=>by simp,NU.out⟩
         case round =>
          clear I6 NU
          obtain ⟨j,hj,rfl,ii,nums⟩:=hrel
          have I7:=Lib.hid ii
          have NU:=Lib.hid nums
          by_cases hlt:j < ln
          ·have hjl:j < L.length:=by have:=HLN.out; omega
           obtain ⟨b3,o3',rfl,hb3,q0⟩:=nums.one hjl
           obtain ⟨y,hy⟩:∃ y,y=L.getD j 0:=⟨_,rfl⟩
           rw [← hy] at q0
           have hym:y ∈ L:=by rw [hy,List.getD,List.getElem?_eq_getElem hjl]; exact List.getElem_mem hjl
           obtain ⟨hy0,hy1⟩:=HL6.out y hym
           have HTK:Hid (L.take (j + 1)=L.take j ++ [y]):=by
            unfold Hid
            rw [List.take_succ_eq_append_getElem hjl,hy,List.getD,List.getElem?_eq_getElem hjl]
            rfl
           obtain ⟨yn,hyn⟩:∃ yn:Nat,y=yn:=⟨y.toNat,by omega⟩
           subst hyn
           have hd6:yn < 6:=by omega
           have n0:=ii.set.cell yn
           rw [setV_get hd6] at n0
           have f0:=ii.set.frozen yn
           have z0:=ii.set.lt
           clear ii nums hy hym hy0 hy1
           go_wp2_with fail
           case roundEnd =>
            refine ⟨⟨j + 1,by omega,by go_num,(I7.out.one hd6 true).same fun r hr=>?_,NU.out.apart I7.out.set (cell_grown _ bo yn _)⟩,by simp [intOf]; omega⟩
            rw [HTK.out]
            unfold updB
            by_cases e:r=yn
            ·subst e
             rw [if_pos rfl]
             simp
            ·rw [if_neg e]
             have e2:¬ (r:Int)=(yn:Int):=by omega
             simp [e2]
          ·obtain rfl:j=ln:=by omega
           clear nums
           have I8:Hid (InSt w bf g1 g2 bx bo #[.string f.name,.int .i64 f.params,.int .i64 f.regs,.int .i64 f.ty.base,.int .i64 f.ty.bits,.string f.ty.name,.bool f.ty.opt,.bool f.ty.err,.slice (some ⟨b,off,none⟩) n f.cap] T2 (H2.set p o2) x (inS T2 x p) wr):=I7.out.same fun r hr=>by
            have h:=HIN.out r hr
            rwa [← List.take_length (l:=L),← HLN.out] at h
           clear ii I7 NU
           obtain ⟨s,hs⟩:∃ s,s=T2.getD p default:=⟨_,rfl⟩
           obtain ⟨o4,ho4⟩:∃ o4,o4=inS T2 x p:=⟨_,rfl⟩
           rw [← ho4] at I8
           have hpt:p < T2.length:=by rw [HT2.out.len]; omega
           have HD:Hid (∀ w',Ext wr w' → bo < w'.heap.size∧g1 < w'.heap.size∧w'.cell? ⟨bo,0,none⟩=some (.bool (o4 0))∧w'.cell? ⟨bo,1,none⟩=some (.bool (o4 1))∧w'.cell? ⟨bo,2,none⟩=some (.bool (o4 2))∧w'.cell? ⟨bo,3,none⟩=some (.bool (o4 3))∧w'.cell? ⟨bo,4,none⟩=some (.bool (o4 4))∧w'.cell? ⟨bo,5,none⟩=some (.bool (o4 5))∧w'.cell? ⟨g1,p * 6,none⟩=some (.bool (s 0))∧w'.cell? ⟨g1,p * 6 + 1,none⟩=some (.bool (s 1))∧w'.cell? ⟨g1,p * 6 + 2,none⟩=some (.bool (s 2))∧w'.cell? ⟨g1,p * 6 + 3,none⟩=some (.bool (s 3))∧w'.cell? ⟨g1,p * 6 + 4,none⟩=some (.bool (s 4))∧w'.cell? ⟨g1,p * 6 + 5,none⟩=some (.bool (s 5))):=fun w' xx=>by
            have h1:=(I8.out.ext' xx)
            obtain ⟨a0,a1,a2,a3,a4,a5⟩:=h1.set.six
            obtain ⟨y0,y1,y2,y3,y4,y5⟩:=h1.st.before.six hpt hs
            exact ⟨h1.set.lt,h1.st.before.lt,a0,a1,a2,a3,a4,a5,y0,y1,y2,y3,y4,y5⟩
           obtain ⟨nq,hnq⟩:∃ nq,(!sameS o4 s)=nq:=⟨_,rfl⟩
           have HEQ:Hid (∀ w',(Op.equalIn 10000 175 (.agg #[.bool (o4 0),.bool (o4 1),.bool (o4 2),.bool (o4 3),.bool (o4 4),.bool (o4 5)]) (.agg #[.bool (s 0),.bool (s 1),.bool (s 2),.bool (s 3),.bool (s 4),.bool (s 5)])).run Tryz.prog w'=.ok (sameS o4 s) w'):=fun w'=>run_set_eq o4 s w'
           have HNQ:=Lib.hid hnq
           have HF0:Hid (nq=false → ∀ r,r < 6 → tabB T2 p r=inS T2 (f.code.getD p default) p r):=fun h r hr=>by
            rw [h] at hnq
            have h2:=sameS_iff.1 (by simpa using hnq) r hr
            rw [← HX.out,← ho4,h2,hs]
            rfl
           have HF9:Hid (nq=true → ¬ ∀ r,r < 6 → tabB T2 p r=inS T2 (f.code.getD p default) p r):=fun h h3=>by
            rw [h] at hnq
            have h4:sameS o4 s=true:=sameS_iff.2 fun r hr=>by
             have h5:=h3 r hr
             rw [← HX.out,← ho4] at h5
             rw [← h5,hs]
             rfl
            rw [h4] at hnq
            cases hnq
           have HF1:Hid (TabOk f.code (T2.set p o4)):=by
            have h:=(HT2.out.up hpl).1
            rwa [← HX.out,← ho4] at h
           have HF2:Hid (cntT T n + (bif (ag || nq) then 1 else 0) ≤ cntT (T2.set p o4) n):=by
            have hc:=HCN.out
            have hN:=HN.out
            cases nq
            ·have h:=HT2.out.same hpl (HF0.out rfl)
             rw [← HX.out,← ho4] at h
             rw [h,Bool.or_false]
             exact hc
            ·have h:=HT2.out.more hpl (HF9.out rfl)
             rw [← HX.out,← ho4,← hN] at h
             rw [Bool.or_true]
             show cntT T n + 1 ≤ _
             have h9:cntT T n ≤ cntT T2 n:=by cases ag <;> simp only [cond_true,cond_false] at hc <;> omega
             omega
           have HF3:Hid ((ag || nq)=false → RndOk f.code (T2.set p o4) (H2.set p o2) p):=fun h=>by
            obtain ⟨h1,h2⟩:=Bool.or_eq_false_iff.1 h
            have h3:=HT2.out.same hpl (HF0.out h2)
            rw [← HX.out,← ho4] at h3
            rw [h3,HO2.out]
            have h4:=(HFX2.out h1).step hpl (by have:=HHL2.out; omega) (HF0.out h2)
            rwa [← HX.out] at h4
           clear hs ho4 hnq
           go_upto_region 25 with fail
           go_cut [6] from 26 to 90 (fun v wx=>v=.bool (ag || nq)∧InSt w bf g1 g2 bx bo #[.string f.name,.int .i64 f.params,.int .i64 f.regs,.int .i64 f.ty.base,.int .i64 f.ty.bits,.string f.ty.name,.bool f.ty.opt,.bool f.ty.err,.slice (some ⟨b,off,none⟩) n f.cap] T2 (H2.set p o2) x o4 wx)
           case first =>
            have hpi:(p:Int) < (n:Int) + 1:=by omega
            have HST:∀ (i:Nat) (l:Array Bool) (w':World),Ext wr w' ↔ Ext wr w':=fun _ _ _=>Iff.rfl
            cases ag
            ·refine flow_begin (fun _ w'=>Ext wr w') #[false,false,false,false,false,false,false,false,false,false] rfl (by kernel_rfl) (fun _ _ _ _ _ h=>h) ((Ext.refl _).drew) (fun HQ=>?_)
             (refine tp 0 78 rfl HQ (HST 0) ?_; try simp only [putL,List.set])
             (refine tp 1 79 rfl HQ (HST 1) ?_; try simp only [putL,List.set])
             (refine tt 2 80 rfl HQ (HST 2) ?_; try simp only [putL,List.set])
             (refine tp 3 81 rfl HQ (HST 3) ?_; try simp only [putL,List.set])
             (refine tp 4 82 rfl HQ (HST 4) ?_; try simp only [putL,List.set])
             (refine tt 5 83 rfl HQ (HST 5) ?_; try simp only [putL,List.set])
             (refine tt 6 84 rfl HQ (HST 6) ?_; try simp only [putL,List.set])
             (refine tk 7 85 (.bool (!sameS o4 s)) rfl (by kernel_rfl) HQ (HST 7) (by rfl) (fun l w' hF=>?_) ?_; (focus (have hq:=HEQ.out; go_simp; try with_reducible rfl)); try simp only [putL,List.set])
             (refine tp 8 86 rfl HQ (HST 8) ?_; try simp only [putL,List.set])
             (refine tp 9 6 rfl HQ (HST 9) ?_; try simp only [putL,List.set])
             refine flow_done (by kernel_rfl) (fun w3 x3=>?_)
             go_wp2_with fail
             go_meet
             case rel=>exact ⟨by first | rfl | (rw [HNQ.out]; rfl),I8.out.ext' x3⟩
            ·refine flow_begin (fun _ w'=>Ext wr w') #[false,false,false,false,false,false,false,false,false,false] rfl (by kernel_rfl) (fun _ _ _ _ _ h=>h) ((Ext.refl _).drew) (fun HQ=>?_)
             (refine tp 0 78 rfl HQ (HST 0) ?_; try simp only [putL,List.set])
             (refine tp 1 79 rfl HQ (HST 1) ?_; try simp only [putL,List.set])
             (refine tsq 2 80 rfl HQ (HST 2) ?_; try simp only [putL,List.set])
             (refine tsq 3 81 rfl HQ (HST 3) ?_; try simp only [putL,List.set])
             (refine tsq 4 82 rfl HQ (HST 4) ?_; try simp only [putL,List.set])
             (refine tsq 5 83 rfl HQ (HST 5) ?_; try simp only [putL,List.set])
             (refine tsq 6 84 rfl HQ (HST 6) ?_; try simp only [putL,List.set])
             (refine tsq 7 85 rfl HQ (HST 7) ?_; try simp only [putL,List.set])
             (refine tp 8 86 rfl HQ (HST 8) ?_; try simp only [putL,List.set])
             (refine tp 9 6 rfl HQ (HST 9) ?_; try simp only [putL,List.set])
             refine flow_done (by kernel_rfl) (fun w3 x3=>?_)
             go_wp2_with fail
             go_meet
             case rel=>exact ⟨by first | rfl | (rw [HNQ.out]; rfl),I8.out.ext' x3⟩
           case rest =>
            obtain ⟨rfl,i9⟩:=hcut
            have I9:=Lib.hid i9
            obtain ⟨y0,y1,y2,y3,y4,y5⟩:=i9.set.six
            have zbo:=i9.set.lt
            have hw5:IntKind.i64.wrap ((p:Int) - 1)=(p:Int) - 1:=IntWalk.i64_in _ (by omega)
            obtain ⟨ag2,hag2⟩:∃ ag2,(ag || nq)=ag2:=⟨_,rfl⟩
            rw [hag2] at HF2 HF3 ⊢
            clear i9 I8 HD HEQ HNQ HF0 HF9 hag2
            go_wp2_with (first
             | ((with_reducible show wpList _ _ _ (Oper.mk none (.store 175 (.tmp 90) (.tmp 89)) _ _ _ _ :: _) _ _)
                refine wpList_store_mid rfl 175 _ _ rfl g1 (p * 6) (setV o4) rfl rfl (I9.out.st.before.there hpt) HZ6.out (setV_one _) ?_
                have I10:=Lib.hid (I9.out.putB hpt o4)
                generalize World.setCells _ g1 (p * 6) (setV o4).toList=w6 at I10 ⊢))
            case roundEnd =>
             exact ⟨⟨ag2,p,T2.set p o4,H2.set p o2,by omega,by go_num,rfl,by rw [List.length_set]; exact HHL2.out,HF1.out,I10.out.st,HF2.out,HF3.out⟩,by simp [intOf] <;> omega⟩
end Go.Proofs.YtknaemlnhediaaaGreatDoor.c
