/- Contract of the reference's Tidy. Conditions: lengths. -/
import Derived.Test.YtknaemlnhediaaaGreatDoorRga
import Derived.Test.YtknaemlnhediaaaGreatDoorUsesH
import Derived.Deep.LoopGhost
namespace Go.Proofs.YtknaemlnhediaaaGreatDoor.c
open Go.RowKit
set_option linter.unusedVariables false
set_option maxRecDepth 100000
set_option maxHeartbeats 12800000
set_option linter.unusedSimpArgs false
theorem Blk.nine {w:World} {g:Nat} {t:TypeId} {a0 a1 a2 a3 a4 a5 a6 a7 a8:Value} (h:Blk w g t #[a0,a1,a2,a3,a4,a5,a6,a7,a8]):w.cell? ⟨g,0,none⟩=some a0∧w.cell? ⟨g,1,none⟩=some a1∧w.cell? ⟨g,2,none⟩=some a2∧w.cell? ⟨g,3,none⟩=some a3∧w.cell? ⟨g,4,none⟩=some a4∧w.cell? ⟨g,5,none⟩=some a5∧w.cell? ⟨g,6,none⟩=some a6∧w.cell? ⟨g,7,none⟩=some a7∧w.cell? ⟨g,8,none⟩=some a8 :=
 ⟨h.cell 0,h.cell 1,h.cell 2,h.cell 3,h.cell 4,h.cell 5,h.cell 6,h.cell 7,h.cell 8⟩
structure TdIn (w0 w:World) (bf:Nat) (f:Rf) (A9:Option Addr) (n9 c9:Nat) (d:List Rg):Prop where
 ext:Ext w0 w
 box:Blk w bf 59 #[.string f.name,.int .i64 f.params,.int .i64 f.regs,.int .i64 f.ty.base,.int .i64 f.ty.bits,.string f.ty.name,.bool f.ty.opt,.bool f.ty.err,.slice A9 n9 c9]
 top:At w A9 d.length 11 (fun i j=>rgC (d.getD i default) j)
 len:n9=d.length
 lo:w0.heap.size ≤ bf
theorem TdIn.ext' {w0 w w':World} {bf n9 c9:Nat} {f:Rf} {A9:Option Addr} {d:List Rg} (s:TdIn w0 w bf f A9 n9 c9 d) (x:Ext w w'):TdIn w0 w' bf f A9 n9 c9 d:=⟨s.ext.trans x,s.box.ext x,s.top.ext x,s.len,s.lo⟩
theorem good_box {l:List Rf} {f:Rf} {d:List Rg} (g:GoodF l (f.with_ d)) (A:Option Addr) (c:Nat):GoodF l { f with A:=A,cap:=c,code:=d }:=⟨g.par,g.reg,g.pos,g.few,g.inst,g.last⟩
theorem rm_eq {d:List Rg} {p:Nat} (hp:p < d.length):rmB d p=(((d.getD p default).op == 2 && (d.getD p default).d == (d.getD p default).a) || deadB d p):=by
 unfold rmB
 rw [decide_eq_true hp,Bool.true_and]
theorem rm_yes:∀ {a b c:Bool},true=((a && b) || c) → (a=true∧b=true) ∨ (a=false∧c=true) ∨ (a=true∧b=false∧c=true):=by decide
theorem rm_no:∀ {a b c:Bool},false=((a && b) || c) → (a=false∧c=false) ∨ (a=true∧b=false∧c=false):=by decide
theorem tidied_of {d:List Rg} (h:∀ p,p < d.length → rmB d p=false):Tidied d:=fun i=>by
 rcases Nat.lt_or_ge i d.length with h1 | h1
 ·exact h i h1
 ·unfold rmB
  rw [decide_eq_false (by omega),Bool.false_and]
theorem hTidy_any (A:Option Addr) (cap:Nat) (l:List Rf) {len:Nat} (w:World) (hlen:len=l.length) (hA:RfAt w A l) (hl:len ≤ 9223372036854775806) (hc:len ≤ 48 → countR l ≤ 9223372036854775806) (hin:RgsIn l) :
  Calls Tryz.prog 55 #[.slice A len cap] w fun e w'=>∃ M A' c',e=.returned (.tuple #[.slice A' M.length c',.int .i64 (validR l)])∧RfAt w' A' M∧LikeR M (tidyR l)∧Ext w w':=by
 have HK:=Lib.hid (hValidate_any A cap l w hlen hA hl hc hin)
 have HA:=Lib.hid hA
 have HLn:=Lib.hid hlen
 clear hA hc hin hlen
 by_cases h0:validR l=0
 ·obtain ⟨h48,_,hgood⟩:=validR_parts h0
  have HR:Hid (tidyR l=tidyL l):=by unfold Hid tidyR; rw [if_pos h0]
  have HV:Hid (validR l=0):=h0
  have HG:Hid (∀ j,j < len → GoodF l (l.getD j default)):=fun j hj=>(hgood j (by have:=HLn.out; omega)).1
  have hrn:=run_rg_nil
  rw [h0] at HK ⊢
  rw [HR.out]
  have hlen48:len ≤ 48:=by have:=HLn.out; omega
  clear h0 h48 hgood HR
  go_enter Tryz.func55,Tryz.ntmps55
  go_wp2_with (first
   | (go_at_call 25; refine (HK.out).mono ?_; rintro r w1 ⟨rfl,x1⟩; have X1:=Lib.hid x1; clear x1))
  go_loopw [5,6] (fun v i wr=>∃ (k:Nat) (M:List Rf),k ≤ len∧i=.int .i64 k∧M.length=k∧TdSt w1 wr v l M) (fun _ i _=>len - (intOf i).toNat)
  case atStart=>exact ⟨0,[],Nat.zero_le _,rfl,rfl,TdSt.start _ _⟩
  case round =>
   obtain ⟨k,M,hk,rfl,hM,st⟩:=hrel
   have ST:=Lib.hid st
   have HM:=Lib.hid hM
   by_cases hlt:k < len
   ·have hkl:k < l.length:=by have:=HLn.out; omega
    obtain ⟨f,hf⟩:∃ f,f=l.getD k default:=⟨_,rfl⟩
    obtain ⟨b,off,rfl,_,_⟩:=HA.out.top (by omega)
    obtain ⟨nf,hnf⟩:∃ nf,nf=f.code.length:=⟨_,rfl⟩
    obtain ⟨hb1,c0,c1,c2,c3,c4,c5,c6,c7,c8⟩:=(HA.out.ext (X1.out.trans st.ext)).cells hkl hf hnf
    have GF:Hid (GoodF l f):=by rw [hf]; exact HG.out k hlt
    have HC:Hid (RgAt w f.A f.code):=HA.out.sub f (by rw [hf]; exact getD_mem hkl)
    have HFF:=Lib.hid hf
    have hfew:=GF.out.few
    rw [← hnf] at hfew
    have HNF:=Lib.hid hnf
    clear hnf hf st hM
    rename World=>wo
    go_wp2_with fail
    have I0:Hid (TdIn wo (wo.alloc (.cells #[.string f.name,.int .i64 f.params,.int .i64 f.regs,.int .i64 f.ty.base,.int .i64 f.ty.bits,.string f.ty.name,.bool f.ty.opt,.bool f.ty.err,.slice f.A nf f.cap] 59)) wo.heap.size f f.A nf f.cap f.code) :=
     ⟨(Ext.refl _).alloc _,Blk.new _ _ _,(HC.out.top.ext (X1.out.trans ST.out.ext)).ext ((Ext.refl _).alloc _),HNF.out,Nat.le_refl _⟩
    generalize (wo.alloc (.cells #[.string f.name,.int .i64 f.params,.int .i64 f.regs,.int .i64 f.ty.base,.int .i64 f.ty.bits,.string f.ty.name,.bool f.ty.opt,.bool f.ty.err,.slice f.A nf f.cap] 59))=w2 at I0 ⊢
    generalize wo.heap.size=bf at I0 ⊢
    clear hb1 c0 c1 c2 c3 c4 c5 c6 c7 c8
    go_loopg [8] (nf + 1) (fun kk v wq=>∃ (ag:Bool) (d:List Rg) (m:Nat) (A9:Option Addr) (n9 c9:Nat),v=.bool ag∧TdIn wo wq bf f A9 n9 c9 d∧DelS m f.code d∧n9 + (bif ag then 1 else 0) ≤ kk∧(ag=false → Tidied d))
    case atStart=>exact ⟨true,f.code,0,f.A,nf,f.cap,rfl,I0.out,.zero,Nat.le_refl _,fun h=>by cases h⟩
    case round =>
     clear I0
     obtain ⟨ag,d,m,A9,n9,c9,rfl,ti,hdel,hkk,htd⟩:=hrel
     have TI:=Lib.hid ti
     have HDL:=Lib.hid hdel
     have HTD:=Lib.hid htd
     have gd:GoodF l (f.with_ d):=hdel.good (show GoodF l (f.with_ f.code) from GF.out)
     have GD:=Lib.hid gd
     have hd1:1 ≤ n9:=by have h:=gd.pos; have:=ti.len; show 1 ≤ n9; rw [this]; exact h
     have hd2:n9 ≤ 6000:=by have h:=gd.few; have:=ti.len; rw [this]; exact h
     obtain ⟨c0,c1,c2,c3,c4,c5,c6,c7,c8⟩:=ti.box.nine
     have zb:=ti.box.lt
     clear ti hdel htd gd
     cases ag
     ·have ht:Tidied d:=HTD.out rfl
      have HTT:=Lib.hid ht
      obtain ⟨b3,o3,rfl,_,_⟩:=TI.out.top (by have:=TI.out.len; omega)
      clear hkk ht
      go_wp2_with (first
       | (at_builtin
          refine wpList_append_rgs rfl _ _ rfl wr.heap.size (.slice (some ⟨wr.heap.size,0,none⟩) 0 0) [] d rfl (own_empty wr) b3 o3 c9 TI.out.len rfl (TI.out.top.ext ((Ext.refl _).alloc _)) (by omega) (by simp; omega) (by simp) ?_
          intro v6 w6 ow6 g6
          obtain ⟨A6,c6',hv6,_⟩:=own_slice ow6
          subst hv6
          have OW6:Hid (w6.ownsRow wr.heap.size 67 11 (.slice A6 d.length c6') d.length (recCells 11 rgC d)):=ow6
          have X6:Hid (Ext wr w6):=((Ext.refl wr).alloc _).grown g6 (own_row (own_empty wr))
          have E6:Hid (Ext wo (w6.setCell ⟨bf,8,none⟩ (.slice A6 ([] ++ d).length c6'))):=(TI.out.ext.trans X6.out).setCell TI.out.lo _
          have OW7:Hid ((w6.setCell ⟨bf,8,none⟩ (.slice A6 ([] ++ d).length c6')).ownsRow wr.heap.size 67 11 (.slice A6 d.length c6') d.length (recCells 11 rgC d)):=own_keep OW6.out (fun g hg=>Below.heap_setCell _ _ _ _ (by have:=TI.out.box.lt; show g ≠ bf; omega))
          clear c0 c1 c2 c3 c4 c5 c6 c7 c8 zb ow6 g6
          obtain ⟨c0,c1,c2,c3,c4,c5,c6,c7,c8⟩:=(TI.out.ext' X6.out).box.nine
          have zb:=(TI.out.ext' X6.out).box.lt
          have f8:=(TI.out.ext' X6.out).box.frozen 8)
       | (at_builtin
          refine wpList_append_rf rfl _ _ rfl w1.heap.size _ M { f with A:=A6,cap:=c6',code:=d } rfl ((ST.out.ext' E6.out).ext' ((Ext.refl _).alloc _)).own _ rfl (Blk.newer (by simp) rfl) (by have:=HM.out; omega) (by have:=ST.out.ext.size; have:=E6.out.size; (try simp at *); omega) ?_
          intro v8 w8 ow8 g8
          have ST9:=Lib.hid (TdSt.push ((ST.out.ext' E6.out).ext' ((Ext.refl _).alloc _)) g8 ow8 (own_ext OW7.out ((Ext.refl _).alloc _)) ⟨A6,c6',by rw [HM.out,← HFF.out]; unfold tidyF; rw [tidyC_eq GF.out HDL.out HTT.out]; rfl⟩)
          clear ow8 g8))
      case roundEnd=>exact ⟨⟨k + 1,_,by omega,by go_num,by simp [HM.out],ST9.out⟩,by simp [intOf]; omega⟩
     ·have hw1:IntKind.i64.wrap ((n9:Int) - 1)=(n9:Int) - 1:=IntWalk.i64_in _ (by omega)
      rename World=>wi
      have HKK:Hid (n9 + 1 ≤ gk):=hkk
      clear hkk
      go_wp2_with fail
      clear c0 c1 c2 c3 c4 c5 c6 c7 c8 zb
      go_loopw [8,9] (fun v i wq=>∃ (ag:Bool) (q:Nat) (d2:List Rg) (m2:Nat) (A8:Option Addr) (n8 c8:Nat),v=.bool ag∧i=.int .i64 ((q:Int) - 1)∧q ≤ n8∧TdIn wo wq bf f A8 n8 c8 d2∧DelS m2 f.code d2∧n8 + (bif ag then 1 else 0) ≤ n9∧(ag=false → ∀ p,q ≤ p → p < n8 → rmB d2 p=false)) (fun _ i _=>(intOf i + 1).toNat)
      case atStart=>exact ⟨false,n9,d,m,A9,n9,c9,rfl,rfl,Nat.le_refl _,TI.out,HDL.out,Nat.le_refl _,fun _ p h1 h2=>by omega⟩
      case round =>
       clear TI HDL HTD GD
       obtain ⟨ag,q,d,m,A9,n8,c9,rfl,rfl,hq,ti,hdel,hcn,htd⟩:=hrel
       have TI:=Lib.hid ti
       have HDL:=Lib.hid hdel
       have HTD:=Lib.hid htd
       have HCN:=Lib.hid hcn
       by_cases hq0:q=0
       ·subst hq0
        have hneg:¬ (0:Int) ≤ ((0:Nat):Int) - 1:=by omega
        clear ti hdel htd
        go_wp2_with fail
        go_roundg (gk - 1)
        case measure=>have:=HKK.out; omega
        case rel=>exact ⟨ag,d,m,A9,n8,c9,rfl,TI.out,HDL.out,by have:=HKK.out; omega,fun h=>tidied_of fun p hp=>HTD.out h p (Nat.zero_le _) (by rw [TI.out.len]; exact hp)⟩
       ·obtain ⟨p,rfl⟩:∃ p,q=p + 1:=⟨q - 1,by omega⟩
        have ei:(((p + 1:Nat):Int) - 1)=(p:Int):=by omega
        rw [ei]
        have hpd:p < d.length:=by rw [← ti.len]; omega
        have hp8:p < n8:=by omega
        have gd:GoodF l (f.with_ d):=hdel.good (show GoodF l (f.with_ f.code) from GF.out)
        have RG:Hid (∀ w',Ext wr w' → RgAt w' A9 d):=fun w' x=>⟨TI.out.top.ext x,fun y hy=>(HDL.out.nums HC.out.sub y hy).ext (((X1.out.trans ST.out.ext).trans TI.out.ext).trans x)⟩
        obtain ⟨b3,o3,rfl,_,_⟩:=ti.top (by omega)
        obtain ⟨x,hx⟩:∃ x,x=d.getD p default:=⟨_,rfl⟩
        obtain ⟨hb1,d0,d1,d2,d3,d4,d5,d6,d7,d8,d9,d10⟩:=(RG.out wr (Ext.refl _)).cells hpd hx
        obtain ⟨c0,c1,c2,c3,c4,c5,c6,c7,c8⟩:=ti.box.nine
        have zb:=ti.box.lt
        have hn8:=ti.len
        have HDD:Hid (∀ w',Ext wr w' → Calls Tryz.prog 119 #[.agg #[.string f.name,.int .i64 f.params,.int .i64 f.regs,.int .i64 f.ty.base,.int .i64 f.ty.bits,.string f.ty.name,.bool f.ty.opt,.bool f.ty.err,.slice (some ⟨b3,o3,none⟩) n8 c9],.int .i64 p] w' fun e w''=>e=.returned (.bool (deadB d p))∧Ext w' w''):=fun w' xx=>by
         have h:=hisDead_any l { f with A:=(some ⟨b3,o3,none⟩),cap:=c9,code:=d } p w' (good_box gd _ _) (RG.out w' xx) hpd
         unfold Rf.val at h
         rw [hn8]
         exact h
        have HWO:Hid (∀ w',Ext wr w' → Calls Tryz.prog 122 #[.agg #[.string f.name,.int .i64 f.params,.int .i64 f.regs,.int .i64 f.ty.base,.int .i64 f.ty.bits,.string f.ty.name,.bool f.ty.opt,.bool f.ty.err,.slice (some ⟨b3,o3,none⟩) n8 c9],.int .i64 p] w' fun e w''=>∃ A9 n9 c9,e=.returned (.agg #[.string f.name,.int .i64 f.params,.int .i64 f.regs,.int .i64 f.ty.base,.int .i64 f.ty.bits,.string f.ty.name,.bool f.ty.opt,.bool f.ty.err,.slice A9 n9 c9])∧n9=(delC d p).length∧RgAt w'' A9 (delC d p)∧Ext w' w''):=fun w' xx=>by
         have h:=hwithout_any { f with A:=(some ⟨b3,o3,none⟩),cap:=c9,code:=d } p w' (RG.out w' xx) hpd gd.few (fun q2 h2 h3=>GoodF.lead (good_box gd (some ⟨b3,o3,none⟩) c9) (p:=q2) h2 h3)
         unfold Rf.val at h
         rw [hn8]
         exact h
        have HZ:Hid ((Tryz.prog.info? 59).map (·.size)=some 9):=by unfold Hid; kernel_rfl
        have HRM:=Lib.hid (rm_eq hpd)
        have hw5:IntKind.i64.wrap ((p:Int) - 1)=(p:Int) - 1:=IntWalk.i64_in _ (by omega)
        have hnd:(delC d p).length=n8 - 1:=by rw [delC_len hpd,hn8]
        have HND:=Lib.hid hnd
        obtain ⟨t2,h2⟩:∃ t,(x.op == 2)=t:=⟨_,rfl⟩
        obtain ⟨t3,h3⟩:∃ t,(x.d == x.a)=t:=⟨_,rfl⟩
        obtain ⟨db,hdb⟩:∃ t,deadB d p=t:=⟨_,rfl⟩
        rw [← hx,h2,h3,hdb] at HRM
        rw [hdb] at HDD
        have HPD:=Lib.hid hpd
        have hp60:p < 6000:=by have h:=gd.few; have h':d.length ≤ 6000:=h; omega
        clear ti hdel htd gd hx hdb hn8 hcn hnd hpd
        cases hrm:rmB d p with
        | true =>
         rw [hrm] at HRM
         have HRT:Hid (rmB d p=true):=hrm
         have hcase:(t2=true∧t3=true) ∨ (t2=false∧db=true) ∨ (t2=true∧t3=false∧db=true):=rm_yes HRM.out
         clear hrm
         rcases hcase with ⟨rfl,rfl⟩ | ⟨rfl,rfl⟩ | ⟨rfl,rfl,rfl⟩
         all_goals
          clear HRM
          go_wp2_with (first
           | (go_at_call 119
              (with_reducible refine (HDD.out _ exA).mono ?_)
              rintro r w4 ⟨rfl,x4⟩
              clear c0 c1 c2 c3 c4 c5 c6 c7 c8 zb
              have T4:=Lib.hid (TI.out.ext' (exA:Ext wr w4))
              obtain ⟨c0,c1,c2,c3,c4,c5,c6,c7,c8⟩:=T4.out.box.nine
              have zb:=T4.out.box.lt)
           | (go_at_call 122
              (with_reducible refine (HWO.out _ exA).mono ?_)
              rintro r w5 ⟨A5,n5,c5',rfl,hn5,rg5,x5⟩
              have T5:=Lib.hid (TI.out.ext' (exA:Ext wr w5))
              have R5:=Lib.hid rg5
              have HN5:=Lib.hid hn5
              clear hn5 rg5)
           | ((with_reducible show wpList _ _ _ (Oper.mk none (.store 59 (.tmp 7) (.tmp 57)) _ _ _ _ :: _) _ _)
              refine wpList_store_row rfl 59 _ _ rfl bf rfl 59 #[.string f.name,.int .i64 f.params,.int .i64 f.regs,.int .i64 f.ty.base,.int .i64 f.ty.bits,.string f.ty.name,.bool f.ty.opt,.bool f.ty.err,.slice (some ⟨b3,o3,none⟩) n8 c9] #[.string f.name,.int .i64 f.params,.int .i64 f.regs,.int .i64 f.ty.base,.int .i64 f.ty.bits,.string f.ty.name,.bool f.ty.opt,.bool f.ty.err,.slice A5 n5 c5'] T5.out.box rfl rfl (by intro v hv; simp at hv; rcases hv with rfl | rfl | rfl | rfl | rfl | rfl | rfl | rfl | rfl <;> rfl) HZ.out ?_
              have T6:Hid (TdIn wo (w5.setRow bf #[.string f.name,.int .i64 f.params,.int .i64 f.regs,.int .i64 f.ty.base,.int .i64 f.ty.bits,.string f.ty.name,.bool f.ty.opt,.bool f.ty.err,.slice A5 n5 c5']) bf f A5 n5 c5' (delC d p)) :=
               ⟨T5.out.ext.setRow T5.out.lo _,T5.out.box.row _,R5.out.top.far11 T5.out.box (by simp) (by simp) (fun g hg=>setRow_other _ _ _ _ hg),HN5.out,T5.out.lo⟩
              generalize (w5.setRow bf #[.string f.name,.int .i64 f.params,.int .i64 f.regs,.int .i64 f.ty.base,.int .i64 f.ty.bits,.string f.ty.name,.bool f.ty.opt,.bool f.ty.err,.slice A5 n5 c5'])=w6 at T6 ⊢))
          case roundEnd =>
           exact ⟨⟨true,p,delC d p,m + 1,A5,n5,c5',rfl,by go_num,by rw [HN5.out,HND.out]; omega,T6.out,HDL.out.snoc HRT.out,by have h:=HCN.out; rw [HN5.out,HND.out]; show n8 - 1 + 1 ≤ n9; cases ag <;> simp only [cond_true,cond_false] at h <;> omega,fun h=>by cases h⟩,by simp [intOf] <;> omega⟩
        | false =>
         rw [hrm] at HRM
         have HRF:Hid (rmB d p=false):=hrm
         have hcase:(t2=false∧db=false) ∨ (t2=true∧t3=false∧db=false):=rm_no HRM.out
         clear hrm
         rcases hcase with ⟨rfl,rfl⟩ | ⟨rfl,rfl,rfl⟩
         all_goals
          clear HRM
          go_wp2_with (first
           | (go_at_call 119
              (with_reducible refine (HDD.out _ exA).mono ?_)
              rintro r w4 ⟨rfl,x4⟩
              have T4:=Lib.hid (TI.out.ext' (exA:Ext wr w4))))
          case roundEnd =>
           refine ⟨⟨ag,p,d,m,_,n8,c9,rfl,by go_num,by omega,T4.out,HDL.out,HCN.out,fun h r h1 h2=>?_⟩,by simp [intOf] <;> omega⟩
           rcases Nat.eq_or_lt_of_le h1 with rfl | h3
           ·exact HRF.out
           ·exact HTD.out h r h3 h2
   ·obtain rfl:k=len:=by omega
    obtain ⟨A9,c9,hv,rf,lk⟩:=st.out (by have:=HLn.out; omega) (X1.out.trans st.ext) HV.out (fun j hj x hx=>(HA.out.sub _ (getD_mem hj)).sub x hx)
    subst hv
    have RF9:=Lib.hid rf
    have LK:=Lib.hid lk
    clear st hM rf lk
    go_wp2_with fail
    go_ret2
    exact ⟨M,A9,c9,rfl,RF9.out,LK.out,X1.out.trans ST.out.ext⟩
 ·have HR:Hid (tidyR l=[]):=by unfold Hid tidyR; rw [if_neg h0]
  rw [HR.out]
  have hb:(validR l != 0)=true:=by simpa using h0
  obtain ⟨er,her⟩:∃ er,er=validR l:=⟨_,rfl⟩
  rw [← her] at hb HK ⊢
  clear h0 her
  go_enter Tryz.func55,Tryz.ntmps55
  go_wp2_with (first | (go_at_call 25; refine (HK.out).mono ?_; rintro r w1 ⟨rfl,x1⟩))
  go_ret2
  exact ⟨[],none,0,rfl,⟨At.nil _ _ _ _,fun f hf=>by cases hf⟩,rfl,x1⟩
end Go.Proofs.YtknaemlnhediaaaGreatDoor.c
