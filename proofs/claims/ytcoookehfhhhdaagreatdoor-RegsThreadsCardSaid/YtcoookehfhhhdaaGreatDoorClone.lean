/- Code in new memory: what slices.Clone of code and code.copied leave. Conditions: sizes. Where jumps lead: contracts of code.Thread's closure and of the reference's last. Conditions: what right code is good for. A list of functions under construction, each with code in memory of its own; code that is threaded up to a place. No condition. -/
import Derived.Test.YtcoookehfhhhdaaGreatDoorThr
import Derived.Test.YtcoookehfhhhdaaGreatDoorMap
import Derived.OwnWalk
import Derived.Test.YtcoookehfhhhdaaGreatDoorQue
import Derived.Deep.LoopGhost
import Derived.StillTailTactics
namespace Go.Proofs.YtcoookehfhhhdaaGreatDoor.c
open Go.RowKit
set_option linter.unusedVariables false
set_option maxRecDepth 100000
set_option maxHeartbeats 1600000
set_option linter.unusedSimpArgs false

def cdCells (c:List Cd):List Value:=c.flatMap fun x=>(List.range 9).map (cdC x)
theorem cdCells_len (c:List Cd):(cdCells c).length=c.length * 9:=by
 unfold cdCells
 induction c with
 | nil=>rfl
 | cons x c ih=>rw [List.flatMap_cons,List.length_append,ih,List.length_cons]; simp; omega
theorem cdCells_get (c:List Cd) (k j:Nat) (hk:k < c.length) (hj:j < 9):(cdCells c)[k * 9 + j]?=some (cdC (c.getD k default) j):=by
 induction c generalizing k with
 | nil=>simp at hk
 | cons x c ih =>
  have e:cdCells (x :: c)=(List.range 9).map (cdC x) ++ cdCells c:=by unfold cdCells; rw [List.flatMap_cons]
  rw [e]
  cases k with
  | zero =>
   rw [List.getElem?_append_left (by simp; omega)]
   simp [hj]
  | succ k =>
   rw [List.getElem?_append_right (by simp; omega)]
   have:=ih k (by simpa using hk)
   rw [show (k + 1) * 9 + j - ((List.range 9).map (cdC x)).length=k * 9 + j by simp; omega,this]
   simp
def CdRow (w:World) (g:Nat) (c:List Cd):Prop:=∃ cur:Array Value,Blk w g 63 cur∧c.length * 9 ≤ cur.size∧∀ k j,k < c.length → j < 9 → cur[k * 9 + j]?=some (cdC (c.getD k default) j)
section
variable {w w':World} {g:Nat} {c:List Cd}
theorem CdRow.lt (h:CdRow w g c):g < w.heap.size:=by
 obtain ⟨cur,hb,_⟩:=h
 exact hb.lt
theorem CdRow.ext (h:CdRow w g c) (x:Ext w w'):CdRow w' g c:=by
 obtain ⟨cur,hb,r⟩:=h
 exact ⟨cur,hb.ext x,r⟩
theorem CdRow.grown {row:Option Nat} (h:CdRow w g c) (x:w.grownBy w' row) (hne:some g ≠ row):CdRow w' g c:=by
 obtain ⟨cur,hb,r⟩:=h
 exact ⟨cur,(x.block g hb.lt hne).trans hb,r⟩
theorem CdRow.far (h:CdRow w g c) {p:Addr} (hp:g ≠ p.block) (u:Value):CdRow (w.setCell p u) g c:=by
 obtain ⟨cur,hb,r⟩:=h
 exact ⟨cur,hb.far hp u,r⟩
theorem CdRow.keep (h:CdRow w g c) (e:w'.heap[g]?=w.heap[g]?):CdRow w' g c:=by
 obtain ⟨cur,hb,r⟩:=h
 exact ⟨cur,e.trans hb,r⟩
theorem CdRow.at_ (h:CdRow w g c):CdAt w (some ⟨g,0,none⟩) c:=by
 obtain ⟨cur,hb,hs,hc⟩:=h
 refine fun hpos=>⟨g,0,rfl,hb.lt,fun i j hi hj=>?_⟩
 rw [Nat.zero_add,hb.cell,hc i j hi hj]
theorem CdRow.frozen (h:CdRow w g c) (i:Nat):w.frozen? ⟨g,i,none⟩=false:=by
 obtain ⟨cur,hb,_⟩:=h
 exact hb.frozen i
theorem CdRow.set_ (h:CdRow w g c) {k:Nat} (hk:k < c.length) (a:Int):CdRow (w.setCell ⟨g,k * 9 + 1,none⟩ (.int .i64 a)) g (c.set k { c.getD k default with a:=a }):=by
 obtain ⟨cur,hb,hs,hc⟩:=h
 refine ⟨_,hb.set_ (k * 9 + 1) _,by simpa using hs,fun i j hi hj=>?_⟩
 have hi':i < c.length:=by simpa using hi
 rw [Array.getElem?_setIfInBounds]
 by_cases e:i=k
 ·subst e
  have e2:(c.set i { c.getD i default with a:=a }).getD i default={ c.getD i default with a:=a }:=by simp [List.getD,hk]
  rw [e2]
  by_cases e3:j=1
  ·subst e3
   rw [if_pos rfl,if_pos (by omega)]
   rfl
  ·rw [if_neg (by omega),hc i j hi' hj]
   match j,hj,e3 with
   | 0,_,_ | 2,_,_ | 3,_,_ | 4,_,_ | 5,_,_ | 6,_,_ | 7,_,_ | 8,_,_=>rfl
 ·have e2:(c.set k { c.getD k default with a:=a }).getD i default=c.getD i default:=by
   simp only [List.getD,List.getElem?_set_ne (fun e4=>e e4.symm)]
  rw [e2,if_neg (by omega),hc i j hi' hj]
end
theorem own_code {w:World} {base:Nat} {v:Value} {c:List Cd} (h:w.ownsRow base 63 9 v c.length (cdCells c)) (hpos:0 < c.length):∃ g cap,v=.slice (some ⟨g,0,none⟩) c.length cap∧base ≤ g∧CdRow w g c:=by
 rcases h.2 with ⟨_,e⟩ | ⟨g,cap,cur,rfl,hb,hg,hn,hc,hs,ht⟩
 ·omega
 ·refine ⟨g,cap,rfl,hb,cur,hg,by rw [hs]; exact Nat.mul_le_mul_right _ hn,fun k j hk hj=>?_⟩
  have h1:=cdCells_get c k j hk hj
  rw [← ht,List.getElem?_take_of_lt (by omega)] at h1
  simpa using h1
theorem info_code:(Tryz.prog.info? 63).map (fun i=>(i.zero,i.size,i.bytes))=some (some (.agg #[.int .i64 0,.int .i64 0,.int .i64 0,.int .i64 0,.int .i64 0,.string ⟨#[]⟩,.bool false,.bool false,.string ⟨#[]⟩]),9,80):=by kernel_rfl
theorem news_code {w:World} {b o:Nat} {c:List Cd} (h:∀ i j,i < c.length → j < 9 → w.cell? ⟨b,o + (i * 9 + j),none⟩=some (cdC (c.getD i default) j)):∀ j u,(cdCells c)[j]?=some u → w.cell? ((⟨b,o,none⟩:Addr).add j)=some u:=by
 intro j u hu
 have hj:j < c.length * 9:=by rw [← cdCells_len]; exact (List.getElem?_eq_some_iff.1 hu).1
 have e:j=j / 9 * 9 + j % 9:=by omega
 have h1:=cdCells_get c (j / 9) (j % 9) (by omega) (Nat.mod_lt _ (by omega))
 rw [← e,hu] at h1
 have h2:=h (j / 9) (j % 9) (by omega) (Nat.mod_lt _ (by omega))
 rw [← e] at h2
 rw [Addr.add_lit,h2,← h1]
theorem one_code (c:List Cd):∀ u ∈ cdCells c,u.oneCell'=true:=by
 intro u hu
 unfold cdCells at hu
 obtain ⟨x,_,hu⟩:=List.mem_flatMap.1 hu
 obtain ⟨j,hj,rfl⟩:=List.mem_map.1 hu
 have hj':=List.mem_range.1 hj
 match j,hj' with
 | 0,_ | 1,_ | 2,_ | 3,_ | 4,_ | 5,_ | 6,_ | 7,_ | 8,_=>rfl
theorem run_cd_nil (a:Addr) (n cap:Nat) (w:World):(binOp .eql 46 (.slice (some a) n cap) (.slice none 0 0)).run Tryz.prog w=.ok (.bool false) w:=rfl
theorem clone_any (A:Option Addr) (cap:Nat) (c:List Cd) {len:Nat} (w:World) (hl:len=c.length) (hA:CdAt w A c) (hpos:0 < len) (hn:len ≤ 2000) :
  Calls Tryz.prog 47 #[.slice A len cap] w fun e w'=>∃ g cap',e=.returned (.slice (some ⟨g,0,none⟩) len cap')∧w.heap.size ≤ g∧CdRow w' g c∧Ext w w':=by
 subst hl
 obtain ⟨b,o,rfl,hb,hc⟩:=hA hpos
 have HN:=Lib.hid (news_code hc)
 obtain ⟨i0,hi0,hz0,hz1,hz2⟩:=info_parts info_code
 have HI:=Lib.hid hi0; have HZ0:=Lib.hid hz0; have HZ1:=Lib.hid hz1; have HZ2:=Lib.hid hz2
 clear hi0 hz0 hz1 hz2 hc
 obtain ⟨n,hnn⟩:∃ n,n=c.length:=⟨_,rfl⟩
 have HNN:=Lib.hid hnn
 rw [← hnn] at hpos hn ⊢
 clear hnn
 have OW:Hid ((w.alloc (.cells #[] 63)).ownsRow w.heap.size 63 9 (.slice (some ⟨w.heap.size,0,none⟩) 0 0) 0 []) :=
  ⟨rfl,.inr ⟨w.heap.size,0,#[],rfl,Nat.le_refl _,Blk.new w 63 #[],Nat.le_refl _,by unfold maxLen; omega,rfl,rfl⟩⟩
 have hrn:=run_cd_nil
 go_enter Tryz.func47,Tryz.ntmps47
 go_wp2_with (first
  | (at_builtin
     refine wpList_append_own _ rfl _ _ 46 rfl w.heap.size 63 i0 _ 9 80 Tryz.underlying46 HI.out HZ0.out HZ1.out HZ2.out rfl (by decide) _ 0 [] rfl OW.out ⟨b,o,none⟩ n cap (cdCells c) rfl ?c1 ?c2 ?c3 ?c4 ?c5 ?c6 ?_))
 case c1=>rw [HNN.out]; exact cdCells_len c
 case c2 =>
  intro j u hu
  have h1:=HN.out j u hu
  rw [Addr.add_lit] at h1 ⊢
  rw [← h1]
  exact (((Ext.refl w).alloc _).cell (p:=⟨b,o + j,none⟩) hb)
 case c3=>exact one_code c
 case c4=>unfold maxLen; omega
 case c5=>omega
 case c6=>simp
 ·intro v' w2 ow2 g2 _
  have OW2:=Lib.hid ow2
  have X2:=Lib.hid (((Ext.refl w).alloc (.cells #[] 63)).grown g2 (own_row OW.out))
  clear ow2 g2
  go_wp2_with fail
  have h1:=OW2.out
  try rw [Nat.zero_add,List.nil_append] at h1
  rw [HNN.out] at h1
  obtain ⟨g,cap',hv,hg,hr⟩:=own_code h1 (by rw [← HNN.out]; exact hpos)
  subst hv
  go_ret
  exact ⟨g,cap',by first | rfl | (rw [HNN.out]; rfl),hg,hr,X2.out⟩
theorem clone_cells (A:Option Addr) (cap:Nat) (c:List Cd) {len:Nat} (w:World) (hl:len=c.length) (hA:CdAt w A c) (hpos:0 < len) (hn:len ≤ 2000) :
  Calls Tryz.prog 47 #[.slice A len cap] w fun e w'=>∃ g cap',e=.returned (.slice (some ⟨g,0,none⟩) len cap')∧w.heap.size ≤ g∧CdRow w' g c∧Ext w w'∧g < w'.heap.size:=by
 refine (clone_any A cap c w hl hA hpos hn).mono ?_
 rintro e w' ⟨g,cap',rfl,h1,h2,h3⟩
 exact ⟨g,cap',rfl,h1,h2,h3,h2.lt⟩
def fcZero:Array Value:=#[.string ⟨#[]⟩,.int .i64 0,.int .i64 0,.int .i64 0,.int .i64 0,.string ⟨#[]⟩,.bool false,.bool false,.slice none 0 0]
theorem copied_any (fn:ByteArray) (fp fpl:Int) (T:Ty) (A:Option Addr) (cap:Nat) (c:List Cd) {len:Nat} (w:World) (hl:len=c.length) (hA:CdAt w A c) (hpos:0 < len) (hn:len ≤ 2000) :
  Calls Tryz.prog 21 #[.agg #[.string fn,.int .i64 fp,.int .i64 fpl,.int .i64 T.base,.int .i64 T.bits,.string T.name,.bool T.opt,.bool T.err,.slice A len cap]] w fun e w' =>
   ∃ g cap',e=.returned (.agg #[.string fn,.int .i64 fp,.int .i64 fpl,.int .i64 T.base,.int .i64 T.bits,.string T.name,.bool T.opt,.bool T.err,.slice (some ⟨g,0,none⟩) len cap'])∧w.heap.size ≤ g∧CdRow w' g c∧Ext w w':=by
 have HA:=Lib.hid hA
 have HL:=Lib.hid hl
 clear hA hl
 have HZ:Hid ((Tryz.prog.info? 48).map (·.size)=some 9):=by unfold Hid; kernel_rfl
 have B1:Hid (∀ o,Blk ((w.alloc (.cells #[.string fn,.int .i64 fp,.int .i64 fpl,.int .i64 T.base,.int .i64 T.bits,.string T.name,.bool T.opt,.bool T.err,.slice A len cap] 48)).alloc o) w.heap.size 48 #[.string fn,.int .i64 fp,.int .i64 fpl,.int .i64 T.base,.int .i64 T.bits,.string T.name,.bool T.opt,.bool T.err,.slice A len cap]):=fun o=>(Blk.new w _ _).alloc o
 go_enter Tryz.func21,Tryz.ntmps21
 go_wp2_with (first
  | (go_at_call 47
     refine (clone_cells A cap c _ HL.out (HA.out.ext (((Ext.refl _).alloc _).alloc _)) hpos hn).mono ?_
     rintro r w1 ⟨g,cap',rfl,hg,hr,x1,zg⟩
     have HB1:=Lib.hid ((B1.out (.cells fcZero 48)).ext x1)
     have HB2:Hid (Blk w1 (w.heap.size + 1) 48 fcZero):=by
      have h9:=(Blk.new (w.alloc (.cells #[.string fn,.int .i64 fp,.int .i64 fpl,.int .i64 T.base,.int .i64 T.bits,.string T.name,.bool T.opt,.bool T.err,.slice A len cap] 48)) 48 fcZero).ext x1
      rwa [size_alloc] at h9
     have c0:=HB1.out.cell 0
     have c1:=HB1.out.cell 1
     have c2:=HB1.out.cell 2
     have c3:=HB1.out.cell 3
     have c4:=HB1.out.cell 4
     have c5:=HB1.out.cell 5
     have c6:=HB1.out.cell 6
     have c7:=HB1.out.cell 7
     have c8:=HB1.out.cell 8
     have f8:=HB1.out.frozen 8
     have z1:=HB2.out.lt
     have HG:=Lib.hid hg
     have HR:=Lib.hid hr
     have X1:=Lib.hid x1
     simp only [List.getElem?_toArray,List.getElem?_cons_zero,List.getElem?_cons_succ] at c0 c1 c2 c3 c4 c5 c6 c7 c8
     clear hg hr x1)
  | (refine wpList_store_row rfl 48 _ _ rfl (w.heap.size + 1) rfl 48 fcZero #[.string fn,.int .i64 fp,.int .i64 fpl,.int .i64 T.base,.int .i64 T.bits,.string T.name,.bool T.opt,.bool T.err,.slice (some ⟨g,0,none⟩) len cap'] (HB2.out.far (by simp) _) rfl rfl ?_ HZ.out ?_
     ·intro v hv
      simp at hv
      rcases hv with rfl | rfl | rfl | rfl | rfl | rfl | rfl | rfl | rfl <;> rfl))
 have hg:=HG.out
 simp only [size_alloc] at hg
 refine bodyPost_ret (results_cell_row rfl _ _ (w.heap.size + 1) 48 #[.string fn,.int .i64 fp,.int .i64 fpl,.int .i64 T.base,.int .i64 T.bits,.string T.name,.bool T.opt,.bool T.err,.slice (some ⟨g,0,none⟩) len cap'] (0,0) _ rfl ((HB2.out.far (by simp) _).row _) Tryz.underlying48 rfl HZ.out) rfl ⟨g,cap',rfl,by omega,?_,?_⟩
 ·exact (HR.out.far (by simp; omega) _).keep (setRow_other _ _ _ _ (by omega))
 ·exact (((((Ext.refl w).alloc _).alloc _).trans X1.out).setCell (by simp) _).setRow (by simp) _
open Classical in
noncomputable def metV (met:List Int):Value → Option Value:=fun x=>if ∃ i ∈ met,x=.int .i64 i then some (.bool true) else none
theorem metV_in {met:List Int} {i:Int} (h:i ∈ met):metV met (.int .i64 i)=some (.bool true):=by
 unfold metV
 rw [if_pos ⟨i,h,rfl⟩]
theorem metV_out {met:List Int} {i:Int} (h:i ∉ met):metV met (.int .i64 i)=none:=by
 unfold metV
 rw [if_neg]
 rintro ⟨j,hj,e⟩
 cases e
 exact h hj
theorem metV_nil:metV []=fun _=>none:=by
 funext x
 unfold metV
 rw [if_neg]
 rintro ⟨i,hi,_⟩
 cases hi
theorem metV_cons {met:List Int} {i:Int} {x:Value} (h:x ≠ .int .i64 i):metV (i :: met) x=metV met x:=by
 unfold metV
 congr 1
 rw [eq_iff_iff]
 constructor
 ·rintro ⟨j,hj,e⟩
  rcases List.mem_cons.1 hj with rfl | hj
  ·exact absurd e h
  ·exact ⟨j,hj,e⟩
 ·rintro ⟨j,hj,e⟩
  exact ⟨j,List.mem_cons_of_mem _ hj,e⟩
theorem end_any (bf g cap:Nat) (c:List Cd) (a:Int) {len:Nat} (w:World) (hl:len=c.length) (hbf:w.cell? ⟨bf,8,none⟩=some (.slice (some ⟨g,0,none⟩) len cap)) (hbl:bf < w.heap.size) (hC:CdAt w (some ⟨g,0,none⟩) c) (sn:Sane c) (ha:inC c a) :
  Calls Tryz.prog 22 #[.int .i64 a,.pointer (some ⟨bf,0,none⟩)] w fun e w'=>e=.returned (.int .i64 (lastS c a))∧Ext w w':=by
 have hfew:=sn.few
 have hmm:=@run_makeMap Tryz.prog
 have HL:=Lib.hid hl
 have HC:=Lib.hid hC
 have SN:=Lib.hid sn
 have HA:=Lib.hid ha
 have HBF:=Lib.hid hbf
 rw [← hl] at hfew
 clear hl hC sn ha hbf
 have M0:=Lib.hid (MapAt.made w 3)
 go_enter Tryz.func22,Tryz.ntmps22
 go_wp2_with fail
 go_loopg [0] (c.length + 1) (fun n v wr=>∃ met at',v=.int .i64 at'∧LsInv c a n met at'∧(∃ m,MapAt wr 3 w.heap.size m (metV met))∧Ext w wr)
 case atStart=>exact ⟨[],a,rfl,LsInv.start HA.out,⟨0,by rw [metV_nil]; exact M0.out⟩,(Ext.refl _).alloc _⟩
 case round =>
  clear M0 hmm
  obtain ⟨met,at',rfl,v,⟨m,hm⟩,hx⟩:=hrel
  obtain ⟨n,hn⟩:∃ n:Nat,at'=n:=⟨at'.toNat,by have:=v.at_.1; omega⟩
  subst hn
  have hnl:n < len:=by have:=v.at_.2; have:=HL.out; omega
  obtain ⟨x,hxx⟩:∃ x,x=c.getD n default:=⟨_,rfl⟩
  obtain ⟨b2,o2,he,hb2,d0,d1,_⟩:=(HC.out.ext hx).at_ (k:=n) (by rw [← HL.out]; exact hnl) hxx
  cases he
  simp only [Nat.zero_add] at d0 d1
  have fb:=HBF.out
  rw [← hx.cell (p:=⟨bf,8,none⟩) hbl] at fb
  have zb:bf < wr.heap.size:=Nat.lt_of_lt_of_le hbl hx.size
  obtain ⟨lk,hkey⟩:=keyOf_i (i:=(n:Int)) (by omega) (by omega)
  have HK:=Lib.hid hkey
  have HM:=Lib.hid hm
  have HV:=Lib.hid v
  have HX:=Lib.hid hxx
  have hgw:w.heap.size < wr.heap.size:=hm.lt
  have HXT:=Lib.hid hx
  clear hkey hm v hxx hx
  by_cases hmt:(n:Int) ∈ met
  ·have hlk:(Instr.lookup 61 (.map (some w.heap.size)) (.int .i64 (n:Int)) false).run Tryz.prog wr=.ok (.bool true) wr:=by
    rw [HM.out.look key_int Tryz.underlying61 zero_bool HK.out false,metV_in hmt]
    rfl
   have HMT:=Lib.hid hmt
   clear hmt
   go_wp2_with fail
   all_goals
    go_ret
    exact ⟨ret_int (HV.out.stop (.inr HMT.out)).symm,HXT.out⟩
  ·have hlk:(Instr.lookup 61 (.map (some w.heap.size)) (.int .i64 (n:Int)) false).run Tryz.prog wr=.ok (.bool false) wr:=by
    rw [HM.out.look key_int Tryz.underlying61 zero_bool HK.out false,metV_out hmt]
    rfl
   have HMT:=Lib.hid hmt
   clear hmt
   go_wp2_with (first
    | (at_mapUpdate
       refine wpList_store_map rfl _ _ _ 61 (.inl rfl) (V':=metV ((n:Int) :: met)) key_int Tryz.underlying61 HM.out rfl (key:=.int .i64 (n:Int)) rfl rfl HK.out (metV_in (List.mem_cons_self ..)) (fun x hx=>metV_cons hx) ?_
       intro w1 m1 g1 s1
       have M1:=Lib.hid m1
       have X1:=Lib.hid (HXT.out.grown g1 (fun j e=>by have:=Option.some.inj e; omega))
       have fb2:=HBF.out
       rw [← X1.out.cell (p:=⟨bf,8,none⟩) hbl] at fb2
       have zb2:bf < w1.heap.size:=Nat.lt_of_lt_of_le hbl X1.out.size
       obtain ⟨b3,o3,he3,hb3,q0,q1,_⟩:=(HC.out.ext X1.out).at_ (k:=n) (by rw [← HL.out]; exact hnl) HX.out
       cases he3
       simp only [Nat.zero_add] at q0 q1
       clear m1 g1 s1))
   ·have hj:isJ c (n:Int)=true:=by
     unfold isJ xI
     rw [Int.toNat_natCast,← HX.out]
     first | assumption | (have h:x.op=14:=by assumption
                           rw [h]; rfl)
    have hna:nxt c (n:Int)=x.a:=by
     unfold nxt xI
     rw [Int.toNat_natCast,← HX.out]
    obtain ⟨q,hq⟩:∃ q,gk=q + 1:=⟨gk - 1,by have:=HV.out.pos; omega⟩
    have v1:=HV.out
    rw [hq] at v1
    have v2:=v1.next SN.out hj HMT.out
    rw [hna] at v2
    go_roundg (gk - 1)
    case measure=>omega
    case rel=>exact ⟨_,_,rfl,by rw [show gk - 1=q by omega]; exact v2,⟨_,M1.out⟩,X1.out⟩
   ·have hj:isJ c (n:Int)=false:=by
     unfold isJ xI
     rw [Int.toNat_natCast,← HX.out]
     first | assumption | (have h:¬ x.op=14:=by assumption
                           simpa using h) | (have h:(x.op == 14)=false ∨ _:=by assumption
                                             simpa using h) | (simp only [beq_eq_false_iff_ne] ; omega)
    go_ret
    exact ⟨ret_int (HV.out.stop (.inl hj)).symm,HXT.out⟩
def fcCells (l:List Fc):List Value:=l.flatMap fun f=>(List.range 9).map (fcC f)
theorem fcCells_get (l:List Fc) (k j:Nat) (hk:k < l.length) (hj:j < 9):(fcCells l)[k * 9 + j]?=some (fcC (l.getD k default) j):=by
 induction l generalizing k with
 | nil=>simp at hk
 | cons x l ih =>
  have e:fcCells (x :: l)=(List.range 9).map (fcC x) ++ fcCells l:=by unfold fcCells; rw [List.flatMap_cons]
  rw [e]
  cases k with
  | zero =>
   rw [List.getElem?_append_left (by simp; omega)]
   simp [hj]
  | succ k =>
   rw [List.getElem?_append_right (by simp; omega)]
   have:=ih k (by simpa using hk)
   rw [show (k + 1) * 9 + j - ((List.range 9).map (fcC x)).length=k * 9 + j by simp; omega,this]
   simp
theorem fcCells_snoc (l:List Fc) (f:Fc):fcCells (l ++ [f])=fcCells l ++ (List.range 9).map (fcC f):=by
 unfold fcCells
 rw [List.flatMap_append]
 simp
structure ThSt (w0 w:World) (v:Value) (M:List Fc):Prop where
 ext:Ext w0 w
 own:w.ownsRow w0.heap.size 48 9 v M.length (fcCells M)
 rows:∀ f,f ∈ M → ∃ g,f.A=some ⟨g,0,none⟩∧CdRow w g f.code
section
variable {w0 w w':World} {v v':Value} {M:List Fc} {f:Fc}
theorem ThSt.ext' (s:ThSt w0 w v M) (x:Ext w w'):ThSt w0 w' v M :=
 ⟨s.ext.trans x,own_ext s.own x,fun f hf=>let ⟨g,h1,h2⟩:=s.rows f hf; ⟨g,h1,h2.ext x⟩⟩
theorem ThSt.start (w0:World):ThSt w0 w0 (.slice none 0 0) []:=⟨Ext.refl _,World.ownsRow_nil _ _ _ _,fun f hf=>by cases hf⟩
theorem row_ne (s:ThSt w0 w v M) {g:Nat} {c:List Cd} (h:CdRow w g c):some g ≠ v.ownBlock:=by
 intro e
 rcases s.own.2 with ⟨rfl,_⟩ | ⟨g',cap,cur,rfl,_,hg,_⟩
 ·cases e
 ·have e2:g=g':=Option.some.inj e
  subst e2
  obtain ⟨cur2,hb,_⟩:=h
  unfold Blk at hb
  rw [hg] at hb
  have:=(Obj.cells.inj (Option.some.inj hb)).2.1
  exact absurd this (by decide)
theorem ThSt.pushed (s:ThSt w0 w v M) (g:w.grownBy w' v.ownBlock) (ow:w'.ownsRow w0.heap.size 48 9 v' (M.length + 1) (fcCells M ++ (List.range 9).map (fcC f))) {gf:Nat} (hf:f.A=some ⟨gf,0,none⟩) (hr:CdRow w gf f.code):ThSt w0 w' v' (M ++ [f]):=by
 refine ⟨s.ext.grown g (own_row s.own),by rw [List.length_append,fcCells_snoc]; exact ow,fun f2 h2=>?_⟩
 rcases List.mem_append.1 h2 with h2 | h2
 ·obtain ⟨g2,h3,h4⟩:=s.rows f2 h2
  exact ⟨g2,h3,h4.grown g (row_ne s h4)⟩
 ·rw [List.mem_singleton] at h2
  subst h2
  exact ⟨gf,hf,hr.grown g (row_ne s hr)⟩
theorem ThSt.out (s:ThSt w0 w v M):∃ A cap,v=.slice A M.length cap∧FcAt w A M:=by
 obtain ⟨A,c,rfl,h⟩:=own_slice s.own
 refine ⟨A,c,rfl,fun hpos=>?_,fun f hf=>?_⟩
 ·obtain ⟨b,off,rfl,hb,hh⟩:=h hpos
  refine ⟨b,off,rfl,hb,fun i j hi hj=>?_⟩
  rw [hh i j hi hj]
  have:=fcCells_get M i j hi hj
  show some ((fcCells M).getD (i * 9 + j) undef)=_
  rw [List.getD,this]; rfl
 ·obtain ⟨g,h1,h2⟩:=s.rows f hf
  rw [h1]
  exact h2.at_
end
theorem info_func:(Tryz.prog.info? 48).map (fun i=>(i.zero,i.size,i.bytes))=some (some (.agg #[.string ⟨#[]⟩,.int .i64 0,.int .i64 0,.int .i64 0,.int .i64 0,.string ⟨#[]⟩,.bool false,.bool false,.slice none 0 0]),9,96):=by kernel_rfl
def thrTo (c:List Cd) (k:Nat):List Cd:=(c.take k).map (thrX c) ++ c.drop k
theorem thrTo_len (c:List Cd) (k:Nat):(thrTo c k).length=c.length:=by
 unfold thrTo
 simp
 omega
theorem thrTo_zero (c:List Cd):thrTo c 0=c:=by
 unfold thrTo
 simp
theorem thrTo_all (c:List Cd) {k:Nat} (h:c.length ≤ k):thrTo c k=thr c:=by
 unfold thrTo thr
 rw [List.take_of_length_le h,List.drop_eq_nil_of_le h,List.append_nil]
theorem thrTo_get (c:List Cd) {k:Nat} (hk:k < c.length):(thrTo c k).getD k default=c.getD k default:=by
 unfold thrTo
 rw [List.getD,List.getElem?_append_right (by simp; omega)]
 simp [List.getD,hk]
 rw [Nat.min_eq_left (by omega)]
 simp [hk]
theorem thrTo_next (c:List Cd) {k:Nat} (hk:k < c.length):thrTo c (k + 1)=(thrTo c k).set k (thrX c (c.getD k default)):=by
 unfold thrTo
 have e:c.drop k=c.getD k default :: c.drop (k + 1):=by
  rw [List.drop_eq_getElem_cons hk]
  simp [List.getD,hk]
 rw [List.take_succ_eq_append_getElem hk,List.map_append,e,List.set_append,if_neg (by simp; omega)]
 have e2:k - ((c.take k).map (thrX c)).length=0:=by simp; omega
 rw [e2,List.set_cons_zero]
 simp [List.getD,hk]
theorem thrTo_same (c:List Cd) {k:Nat} (hk:k < c.length) (h:thrX c (c.getD k default)=c.getD k default):thrTo c (k + 1)=thrTo c k:=by
 rw [thrTo_next c hk,h,← thrTo_get c hk]
 have hk2:k < (thrTo c k).length:=by rw [thrTo_len]; exact hk
 rw [List.getD,List.getElem?_eq_getElem hk2]
 exact List.set_getElem_self _
def endF (c:List Cd) (k j:Nat):Value:=.int .i64 (if j < k∧leadsS (c.getD j default).op=true then lastS c (c.getD j default).a else 0)
theorem endF_zero (c:List Cd) (j:Nat):endF c 0 j=.int .i64 0:=by
 unfold endF
 rw [if_neg (by omega)]
theorem endF_hit (c:List Cd) {k j:Nat} (h:leadsS (c.getD k default).op=true):endF c (k + 1) j=if j=k then .int .i64 (lastS c (c.getD k default).a) else endF c k j:=by
 unfold endF
 by_cases e:j=k
 ·subst e
  rw [if_pos ⟨by omega,h⟩,if_pos rfl]
 ·rw [if_neg e]
  by_cases e2:j < k∧leadsS (c.getD j default).op=true
  ·rw [if_pos ⟨by omega,e2.2⟩,if_pos e2]
  ·rw [if_neg (fun e3=>e2 ⟨by omega,e3.2⟩),if_neg e2]
theorem endF_miss (c:List Cd) {k j:Nat} (h:leadsS (c.getD k default).op=false):endF c (k + 1) j=endF c k j:=by
 unfold endF
 by_cases e:j=k
 ·subst e
  rw [if_neg (fun e=>by rw [h] at e; cases e.2),if_neg (fun e=>by omega)]
 ·by_cases e2:j < k∧leadsS (c.getD j default).op=true
  ·rw [if_pos ⟨by omega,e2.2⟩,if_pos e2]
  ·rw [if_neg (fun e3=>e2 ⟨by omega,e3.2⟩),if_neg e2]
theorem endF_at (c:List Cd) {k j:Nat} (hj:j < k) (h:leadsS (c.getD j default).op=true):endF c k j=.int .i64 (lastS c (c.getD j default).a):=by
 unfold endF
 rw [if_pos ⟨hj,h⟩]
structure ZZ (w:World) (gc q:Nat) (u:Value) (w':World):Prop where
 os:w'.os=w.os
 tape:w'.tape=w.tape
 output:w'.output=w.output
 size:w.heap.size ≤ w'.heap.size
 block:∀ i,i < w.heap.size → i ≠ gc → w'.heap[i]?=w.heap[i]?
 own:w'.heap[gc]?=w.heap[gc]? ∨ w'.heap[gc]?=(w.setCell ⟨gc,q,none⟩ u).heap[gc]?
def cval (w:World) (a:Addr):Value:=(w.cell? a).getD undef
theorem ZZ.refl (w:World) (gc q:Nat) (u:Value):ZZ w gc q u w:=⟨rfl,rfl,rfl,Nat.le_refl _,fun _ _ _=>rfl,.inl rfl⟩
section
variable {w w' w2:World} {gc q:Nat} {u:Value}
theorem ZZ.ext (z:ZZ w gc q u w') (hg:gc < w.heap.size) (x:Ext w' w2):ZZ w gc q u w2:=by
 have hg':gc < w'.heap.size:=Nat.lt_of_lt_of_le hg z.size
 refine ⟨x.out.os.trans z.os,x.out.tape.trans z.tape,x.out.output.trans z.output,Nat.le_trans z.size x.size,fun i hi hne=>(x.out.block i (Nat.lt_of_lt_of_le hi z.size)).trans (z.block i hi hne),?_⟩
 rw [x.out.block gc hg']
 exact z.own
theorem set_block (w:World) (gc q:Nat) (u:Value):(w.setCell ⟨gc,q,none⟩ u).heap[gc]?=(w.heap[gc]?).map (fun o=>match o with | .cells cs t f=>.cells (cs.setIfInBounds q u) t f | o=>o):=by
 cases h:w.heap[gc]? with
 | none=>simp [World.setCell,Array.getElem?_modify,h]
 | some o=>cases o <;> simp [World.setCell,Array.getElem?_modify,h]
theorem ZZ.after (z:ZZ w gc q u w'):(w'.setCell ⟨gc,q,none⟩ u).heap[gc]?=(w.setCell ⟨gc,q,none⟩ u).heap[gc]?:=by
 rw [set_block,set_block]
 rcases z.own with h | h
 ·rw [h]
 ·rw [h,set_block]
  cases w.heap[gc]? with
  | none=>rfl
  | some o=>cases o <;> simp
theorem ZZ.store (z:ZZ w gc q u w'):ZZ w gc q u (w'.setCell ⟨gc,q,none⟩ u) :=
 ⟨z.os,z.tape,z.output,by have:=z.size; simpa using this,fun i hi hne=>(Below.heap_setCell w' ⟨gc,q,none⟩ u i hne).trans (z.block i hi hne),.inr z.after⟩
theorem ZZ.drew (z:ZZ w gc q u w'):ZZ w gc q u w'.drew:=⟨z.os,z.tape,z.output,z.size,z.block,z.own⟩
theorem ZZ.far (z:ZZ w gc q u w') {b o:Nat} (hb:b < w.heap.size) (hne:b ≠ gc):w'.cell? ⟨b,o,none⟩=w.cell? ⟨b,o,none⟩:=World.cell?_of_block (a:=⟨b,o,none⟩) (z.block b hb hne)
theorem ZZ.here (z:ZZ w gc q u w') {v:Value} (h:w.cell? ⟨gc,q,none⟩=some v) (hf:w.frozen? ⟨gc,q,none⟩=false):w'.cell? ⟨gc,q,none⟩=some (cval w' ⟨gc,q,none⟩)∧w'.frozen? ⟨gc,q,none⟩=false:=by
 have key:∃ v',w'.cell? ⟨gc,q,none⟩=some v':=by
  rcases z.own with e | e
  ·exact ⟨v,(World.cell?_of_block (a:=⟨gc,q,none⟩) e).trans h⟩
  ·obtain ⟨y,hy⟩:=cell?_setCell_some (p:=⟨gc,q,none⟩) (x:=u) h
   exact ⟨y,(World.cell?_of_block (a:=⟨gc,q,none⟩) e).trans hy⟩
 obtain ⟨v',hv'⟩:=key
 refine ⟨by unfold cval; rw [hv']; rfl,?_⟩
 rcases z.own with e | e
 ·rw [World.frozen?_of_block (a:=⟨gc,q,none⟩) e]; exact hf
 ·rw [World.frozen?_of_block (a:=⟨gc,q,none⟩) e]
  simpa using hf
theorem ZZ.below (z:ZZ w gc q u w') {B:Nat} {w0:World} (b:Below B w0 w) (hs:B ≤ w0.heap.size) (hB:B ≤ gc):Below B w0 w' :=
 ⟨z.os.trans b.os,z.tape.trans b.tape,z.output.trans b.output,Nat.le_trans b.size z.size,fun i hi=>(z.block i (by have:=b.size; omega) (by omega)).trans (b.block i hi)⟩
end
end Go.Proofs.YtcoookehfhhhdaaGreatDoor.c
