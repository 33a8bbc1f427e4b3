/- Contract of the stack machine's Alone, for all its operations. Conditions: right types. The last items of a row, as the source of an append; what the call of the machine's run leaves. No condition. What a store of a whole log leaves. No condition. A row of cells told by its places. No condition. Contract of the stack machine's Run, given that of its run. Lengths are bounded. -/
import Derived.Test.YtcoookehfhhhdaaGreatDoorKf
import Derived.Test.YtcoookehfhhhdaaGreatDoorKb
import Derived.Test.YtcoookehfhhhdaaGreatDoorLib
import Derived.Lib.RowBridge
import Derived.Test.YtcoookehfhhhdaaGreatDoorKg
namespace Go.Proofs.YtcoookehfhhhdaaGreatDoor.c
open Go.RowKit
set_option linter.unusedVariables false
set_option maxRecDepth 100000
set_option maxHeartbeats 6400000
set_option linter.unusedSimpArgs false
theorem takes_alone {x:Cd} (h:7 ≤ x.op∧x.op ≤ 11):takesS x=1:=by
 rcases (show x.op=7 ∨ x.op=8 ∨ x.op=9 ∨ x.op=10 ∨ x.op=11 by omega) with e | e | e | e | e <;> simp [takesS,e]
theorem kalone_any (x:Cd) (v:Val) (ck:Bool) (w:World) (h:7 ≤ x.op∧x.op ≤ 11) (hb:x.op=7 ∨ x.op=9 ∨ x.op=10 → 1 ≤ x.ty.bits∧x.ty.bits ≤ 31) :
  Calls Tryz.prog 116 #[.int .i64 x.op,.agg #[.int .i64 x.ty.base,.int .i64 x.ty.bits,.string x.ty.name,.bool x.ty.opt,.bool x.ty.err],.agg (itA v),.bool ck] w fun e w'=>e=.returned (.tuple #[.agg (itA (nv (oneK ck x v).1)),.int .i64 (oneK ck x v).2])∧Ext w w':=by
 obtain ⟨op,a,b,t,nm⟩:=x
 simp only at h hb
 rcases (show op=7 ∨ op=8 ∨ op=9 ∨ op=10 ∨ op=11 by omega) with e | e | e | e | e
 ·subst e
  exact kalone_neg a b t nm v ck w (hb (by omega)).1 (hb (by omega)).2
 ·subst e
  exact kalone_not a b t nm v ck w
 ·subst e
  exact kalone_cast a b t nm v ck w (hb (by omega)).1 (hb (by omega)).2
 ·subst e
  exact kalone_wrap a b t nm v ck w (hb (by omega)).1 (hb (by omega)).2
 ·subst e
  exact kalone_unwrap a b t nm v ck w
theorem its_drop {w:World} {g m:Nat} {K:List Val} (hk:RecRow w g 86 3 itC K):∀ i j,i < (K.drop m).length → j < 3 → w.cell? ⟨g,m * 3 + (i * 3 + j),none⟩=some (itC ((K.drop m).getD i default) j):=by
 intro i j hi hj
 rw [List.length_drop] at hi
 rw [show m * 3 + (i * 3 + j)=(m + i) * 3 + j by omega,hk.cell (by omega) hj]
 simp [List.getD,List.getElem?_drop]
theorem own_at {w:World} {base:Nat} {v:Value} {K:List Val} (h:w.ownsRow base 86 3 v K.length (recCells 3 itC K)):∃ A cap,v=.slice A K.length cap∧At w A K.length 3 (fun i j=>itC (K.getD i default) j):=own_rec_at h
theorem At.zero {w:World} {A:Option Addr} {sz:Nat} {C:Nat → Nat → Value}:At w A 0 sz C:=fun h=>absurd h (Nat.lt_irrefl 0)
theorem SkSt.after {w0 w:World} {z len s:Nat} {kd y:Int} {vC:Value} {h:Int} {gp:Nat} {PL:List Val} {base:Nat} {v:Value} {K:List Val} (k:SkSt w0 z len kd y s vC h gp PL base v K w) {kd' y':Int} {s':Nat} {vC':Value} {h':Int} (hc:∃ L:List Int,L.length=len∧CallsAt w vC' L):SkSt w0 z len kd' y' s' vC' h' gp PL base v K (w.setRow z (logA kd' y' s' vC' h')):=by
 exact k.log (row_grown _ _ _) (k.bl.row _) hc
theorem enters_oper:Enters 114 := Enters.of Tryz.func114 (by kernel_rfl) (by kernel_rfl)
theorem enters_named:Enters 71 := Enters.of Tryz.func71 (by kernel_rfl) (by kernel_rfl)
theorem enters_krun:Enters 73 := Enters.of Tryz.func73 (by kernel_rfl) (by kernel_rfl)
theorem logA_ones (kd y:Int) (s:Nat) {v:Value} (h:Int) (hv:v.oneCell'=true):∀ u ∈ (logA kd y s v h).toList,u.oneCell'=true:=by
 intro x hx
 simp [logA] at hx
 rcases hx with rfl | rfl | rfl | rfl | rfl | rfl | rfl <;> first | rfl | exact hv
structure F5 (w5 wc:World) (g:Nat) (new:Array Value) (l:Array Bool) (w:World):Prop where
 x:Ext w5 w
 b:l.getD 15 false=true → Blk w g 86 new
 k:l.getD 15 false=false → Ext wc w
 bl:∃ cs,Blk w g 86 cs∧cs.size=3
 sz:l.size=17
section
variable {w5 wc w w':World} {g:Nat} {new:Array Value} {l:Array Bool}
theorem F5.same {i:Nat} (h:i ≠ 15) (l:Array Bool) (w:World):F5 w5 wc g new (l.setIfInBounds i true) w ↔ F5 w5 wc g new l w:=by
 constructor
 ·rintro ⟨a,b,c,d,e⟩
  rw [getD_set_ne false h] at b c
  exact ⟨a,b,c,d,by simpa using e⟩
 ·rintro ⟨a,b,c,d,e⟩
  exact ⟨a,by rwa [getD_set_ne false h],by rwa [getD_set_ne false h],d,by simpa using e⟩
theorem F5.start {v:Val} (x:Ext w5 wc) (hb:Blk wc g 86 (itA v)):F5 w5 wc g new #[false,false,false,false,false,false,false,false,false,false,false,false,false,false,false,false,false] wc.drew :=
 ⟨x.drew,fun e=>(by cases e),fun _=>(Ext.refl _).drew,⟨_,hb.ext (Ext.refl _).drew,rfl⟩,rfl⟩
theorem F5.ext' (f:F5 w5 wc g new l w) (x:Ext w w'):F5 w5 wc g new l w':=by
 obtain ⟨cs,h1,h2⟩:=f.bl
 exact ⟨f.x.trans x,fun e=>(f.b e).ext x,fun e=>(f.k e).trans x,⟨cs,h1.ext x,h2⟩,f.sz⟩
theorem F5.there (f:F5 w5 wc g new l w) (hn:new.size=3):w.there g 0 new.size:=by
 obtain ⟨cs,h1,h2⟩:=f.bl
 exact blk_there h1 (by rw [h2,hn])
theorem F5.put (f:F5 w5 wc g new l w) (hn:new.size=3) (hg:w5.heap.size ≤ g):F5 w5 wc g new (l.setIfInBounds 15 true) (w.setCells g 0 new.toList):=by
 obtain ⟨cs,h1,h2⟩:=f.bl
 have h9:=Blk.over h1 new.toList (by simp [h2,hn])
 rw [Array.toArray_toList] at h9
 exact ⟨f.x.setCells hg _ _,fun _=>h9,fun e=>(by rw [getD_set_eq (by rw [f.sz]; decide)] at e; cases e),⟨new,h9,hn⟩,by simpa using f.sz⟩
end
theorem row_far {w0 w:World} {z len:Nat} {kd y:Int} {s:Nat} {vC:Value} {h:Int} {gp:Nat} {PL:List Val} {base:Nat} {sv:Value} {K:List Val} (k:SkSt w0 z len kd y s vC h gp PL base sv K w) {g:Nat} {t:TypeId} {cs:Array Value} (hb:Blk w g t cs) (hne:t ≠ 89) (L:Array Value):Blk (w.setRow z L) g t cs :=
 (setRow_other w z g L (blk_ty hb k.bl hne)).trans hb
def KOut (l:List Fc) (nm:ByteArray) (av:List Val) (ck:Bool) (o:En):Prop :=
 (askN l nm av ≠ 0 → o=.ret default)∧(askN l nm av=0 → ∃ en t,RunK l ck (.call 1 (indexS l nm).toNat av) 0 en t∧o=enP en)
def KRuns (l:List Fc) (A:Option Addr) (len cap:Nat) (ck:Bool):Prop:=validS l=0 → (∀ k,k < l.length → unsoundS (l.getD k default).code < 0) → ∀ wb,FcAt wb A l → KCall l A len cap ck wb 1
theorem ask_zero {l:List Fc} {nm:ByteArray} {av:List Val} (h:askN l nm av=0):(checkE l).2.2=0∧∃ j:Nat,indexS l nm=j∧j < l.length∧(av.length:Int)=(l.getD j default).params:=by
 unfold askN at h
 by_cases h1:(checkE l).2.2=0
 ·rw [if_pos h1] at h
  rcases index_spec l nm with ⟨e,_⟩ | ⟨j,e,hj,_⟩
  ·rw [if_pos (by omega)] at h
   omega
  ·rw [e,if_neg (by omega),Int.toNat_natCast] at h
   by_cases h2:(av.length:Int)=(l.getD j default).params
   ·exact ⟨h1,j,e,hj,h2⟩
   ·rw [if_neg h2] at h
    omega
 ·rw [if_neg h1] at h
  exact absurd h h1
theorem kRun_any (A:Option Addr) (cap:Nat) (l:List Fc) {len:Nat} (nm:ByteArray) (vA:Option Addr) (vc:Nat) (av:List Val) {na:Nat} (ck:Bool) (w:World) (HC:KRuns l A len cap ck) (hlen:len=l.length) (hna:na=av.length) (hA:FcAt w A l) (hV:ValsAt w vA av) (hl:len ≤ 9223372036854775806) (hna2:na ≤ 1000) (hc:l.length ≤ 48 → countS l ≤ 9223372036854775806) (hfl:∀ f,f ∈ l → f.code.length ≤ 9223372036854775806) :
  Calls Tryz.prog 14 #[.slice A len cap,.string nm,.slice vA na vc,.bool ck] w fun e w'=>∃ o,KOut l nm av ck o∧e=.returned (.tuple #[.agg (outC o),.int .i64 (askN l nm av)])∧Ext w w':=by
 have HAS:Hid (∀ W:World,Ext w W → Calls Tryz.prog 39 #[.slice A len cap,.string nm,.slice vA na vc] W fun e w'=>e=.returned (.int .i64 (askN l nm av))∧Ext W w'):=fun W hxw=>kasked_any A cap l nm vA vc av W hlen hna (hA.ext hxw) (hV.ext hxw) hl (by omega) hc hfl
 have HZO:=Lib.hid sizeOut
 have HZI:=Lib.hid sizeIt
 have HZL:=Lib.hid sizeLog
 by_cases h0:askN l nm av=0
 ·obtain ⟨hck,j,hj,hjl,hpar⟩:=ask_zero h0
  obtain ⟨hv,hs⟩:=check_ok hck
  obtain ⟨en,t,hr⟩:=RunK.total l ck 1 j av 0
  have HO:Hid (KOut l nm av ck (enP en)):=⟨fun h=>absurd h0 h,fun _=>⟨en,t,by rw [hj,Int.toNat_natCast]; exact hr,rfl⟩⟩
  have hl48:=(valid_parts hv).1
  have HPL:Hid (∀ W:World,Ext w W → Calls Tryz.prog 40 #[.slice A len cap,.string nm,.slice vA na vc,.bool ck,.int .i64 (-1)] W fun e w'=>∃ (v9:Value) (h9:Int),e=.returned (.tuple #[.agg (itA (enV en)),.agg (logA (enE en).1 (enE en).2 t v9 h9)])∧v9.oneCell'=true∧Ext W w'):=fun W hxw=>kplayed_any A cap l nm vA vc av ck W (HC hv hs) hlen hna (hA.ext hxw) (hV.ext hxw) (by omega) hna2 hj hjl hpar hr
  rw [h0] at HAS ⊢
  clear hck hj hjl hpar hv hs hr hl48 hA hV hc hfl HC hlen hna h0
  have B0:Hid (Blk (w.alloc (.cells outZ 52)) w.heap.size 52 outZ):=Blk.new _ _ _
  go_enter Tryz.func14,Tryz.ntmps14
  go_wp2_with (first
   | (go_at_call 39
      refine (HAS.out _ exA).mono ?_
      rintro r w1 ⟨rfl,x1⟩
      have BO1:=Lib.hid (B0.out.ext x1)
      have X1:Hid (Ext w w1):=((Ext.refl w).alloc _).trans x1
      clear x1)
   | (go_at_call 40
      refine (HPL.out _ X1.out).mono ?_
      rintro r w2 ⟨v9,h9,rfl,hv9,x2⟩
      have HV9:=Lib.hid hv9
      have BO2:Hid (Blk ((w2.alloc (.cells #[.int .i64 0,.bool false,.string ⟨#[]⟩] 86)).alloc (.cells #[.int .i64 0,.int .i64 0,.int .i64 0,.slice none 0 0,.int .i64 0,.slice none 0 0,.int .i64 0] 89)) w.heap.size 52 outZ):=((BO1.out.ext x2).alloc _).alloc _
      have BI2:Hid (Blk ((w2.alloc (.cells #[.int .i64 0,.bool false,.string ⟨#[]⟩] 86)).alloc (.cells #[.int .i64 0,.int .i64 0,.int .i64 0,.slice none 0 0,.int .i64 0,.slice none 0 0,.int .i64 0] 89)) w2.heap.size 86 zI):=(Blk.new _ _ _).alloc _
      have BL2:Hid (Blk ((w2.alloc (.cells #[.int .i64 0,.bool false,.string ⟨#[]⟩] 86)).alloc (.cells #[.int .i64 0,.int .i64 0,.int .i64 0,.slice none 0 0,.int .i64 0,.slice none 0 0,.int .i64 0] 89)) (w2.heap.size + 1) 89 zL):=new2 _ _ _ _
      have X2:Hid (Ext w ((w2.alloc (.cells #[.int .i64 0,.bool false,.string ⟨#[]⟩] 86)).alloc (.cells #[.int .i64 0,.int .i64 0,.int .i64 0,.slice none 0 0,.int .i64 0,.slice none 0 0,.int .i64 0] 89))):=((X1.out.trans x2).alloc _).alloc _
      have hsz:w1.heap.size ≤ w2.heap.size:=x2.size
      clear hv9 x2)
   | ((with_reducible show wpList _ _ _ (Oper.mk none (.store 86 (.tmp 11) _) _ _ _ _ :: _) _ _)
      refine wpList_store_row rfl 86 _ _ rfl w2.heap.size rfl 86 zI (itA (enV en)) BI2.out rfl rfl (itA_one _) HZI.out ?_
      have BI3:Hid (Blk (((w2.alloc (.cells #[.int .i64 0,.bool false,.string ⟨#[]⟩] 86)).alloc (.cells #[.int .i64 0,.int .i64 0,.int .i64 0,.slice none 0 0,.int .i64 0,.slice none 0 0,.int .i64 0] 89)).setRow w2.heap.size (itA (enV en))) w2.heap.size 86 (itA (enV en))):=BI2.out.row (itA (enV en))
      have BL3:Hid (Blk (((w2.alloc (.cells #[.int .i64 0,.bool false,.string ⟨#[]⟩] 86)).alloc (.cells #[.int .i64 0,.int .i64 0,.int .i64 0,.slice none 0 0,.int .i64 0,.slice none 0 0,.int .i64 0] 89)).setRow w2.heap.size (itA (enV en))) (w2.heap.size + 1) 89 zL):=((setRow_other _ w2.heap.size (w2.heap.size + 1) (itA (enV en)) (by omega)).trans BL2.out)
      have BO3:Hid (Blk (((w2.alloc (.cells #[.int .i64 0,.bool false,.string ⟨#[]⟩] 86)).alloc (.cells #[.int .i64 0,.int .i64 0,.int .i64 0,.slice none 0 0,.int .i64 0,.slice none 0 0,.int .i64 0] 89)).setRow w2.heap.size (itA (enV en))) w.heap.size 52 outZ):=((setRow_other _ w2.heap.size w.heap.size (itA (enV en)) (by have:=blk_ty BO2.out BI2.out (by decide); omega)).trans BO2.out)
      have X3:Hid (Ext w (((w2.alloc (.cells #[.int .i64 0,.bool false,.string ⟨#[]⟩] 86)).alloc (.cells #[.int .i64 0,.int .i64 0,.int .i64 0,.slice none 0 0,.int .i64 0,.slice none 0 0,.int .i64 0] 89)).setRow w2.heap.size (itA (enV en)))):=(X2.out.setRow (show w.heap.size ≤ w2.heap.size by have:=X2.out.size; have:=BO1.out.lt; omega) (itA (enV en)))
      refine wpList_store_row rfl 89 _ _ rfl (w2.heap.size + 1) rfl 89 zL (logA (enE en).1 (enE en).2 t v9 h9) BL3.out rfl rfl (logA_ones _ _ _ _ HV9.out) HZL.out ?_
      have BI4:Hid (Blk ((((w2.alloc (.cells #[.int .i64 0,.bool false,.string ⟨#[]⟩] 86)).alloc (.cells #[.int .i64 0,.int .i64 0,.int .i64 0,.slice none 0 0,.int .i64 0,.slice none 0 0,.int .i64 0] 89)).setRow w2.heap.size (itA (enV en))).setRow (w2.heap.size + 1) (logA (enE en).1 (enE en).2 t v9 h9)) w2.heap.size 86 (itA (enV en))):=(setRow_other _ _ _ _ (by omega)).trans BI3.out
      have BL4:Hid (Blk ((((w2.alloc (.cells #[.int .i64 0,.bool false,.string ⟨#[]⟩] 86)).alloc (.cells #[.int .i64 0,.int .i64 0,.int .i64 0,.slice none 0 0,.int .i64 0,.slice none 0 0,.int .i64 0] 89)).setRow w2.heap.size (itA (enV en))).setRow (w2.heap.size + 1) (logA (enE en).1 (enE en).2 t v9 h9)) (w2.heap.size + 1) 89 (logA (enE en).1 (enE en).2 t v9 h9)):=BL3.out.row _
      have BO4:Hid (Blk ((((w2.alloc (.cells #[.int .i64 0,.bool false,.string ⟨#[]⟩] 86)).alloc (.cells #[.int .i64 0,.int .i64 0,.int .i64 0,.slice none 0 0,.int .i64 0,.slice none 0 0,.int .i64 0] 89)).setRow w2.heap.size (itA (enV en))).setRow (w2.heap.size + 1) (logA (enE en).1 (enE en).2 t v9 h9)) w.heap.size 52 outZ):=(setRow_other _ _ _ _ (by have:=blk_ty BO3.out BL3.out (by decide); omega)).trans BO3.out
      have X4:Hid (Ext w ((((w2.alloc (.cells #[.int .i64 0,.bool false,.string ⟨#[]⟩] 86)).alloc (.cells #[.int .i64 0,.int .i64 0,.int .i64 0,.slice none 0 0,.int .i64 0,.slice none 0 0,.int .i64 0] 89)).setRow w2.heap.size (itA (enV en))).setRow (w2.heap.size + 1) (logA (enE en).1 (enE en).2 t v9 h9))):=X3.out.setRow (by have:=BO1.out.lt; omega) _
      generalize (((w2.alloc (.cells #[.int .i64 0,.bool false,.string ⟨#[]⟩] 86)).alloc (.cells #[.int .i64 0,.int .i64 0,.int .i64 0,.slice none 0 0,.int .i64 0,.slice none 0 0,.int .i64 0] 89)).setRow w2.heap.size (itA (enV en))).setRow (w2.heap.size + 1) (logA (enE en).1 (enE en).2 t v9 h9)=w4 at BI4 BL4 BO4 X4 ⊢
      obtain ⟨g,hg⟩:∃ g,g=w2.heap.size:=⟨_,rfl⟩
      rw [← hg] at BI4 BL4 ⊢
      have HRI:Hid (w4.rangeAt g 0 (itA (enV en)).toList):=BI4.out.all
      have HRL:Hid (w4.rangeAt (g + 1) 0 (logA (enE en).1 (enE en).2 t v9 h9).toList):=BL4.out.all
      clear BI2 BL2 BO2 X2 BI3 BL3 BO3 X3 hsz)
   | ((with_reducible show wpList _ _ _ (Oper.mk (some 29) (.load 86 (.tmp 11)) _ _ _ _ :: _) _ _); refine wpList_load_mid rfl 86 _ rfl g 0 rfl (itA (enV en)).toList _ HRI.out Tryz.underlying86 rfl HZI.out ?_)
   | ((with_reducible show wpList _ _ _ (Oper.mk (some 30) (.load 89 (.tmp 12)) _ _ _ _ :: _) _ _); refine wpList_load_mid rfl 89 _ rfl (g + 1) 0 rfl (logA (enE en).1 (enE en).2 t v9 h9).toList _ HRL.out Tryz.underlying89 rfl HZL.out ?_)
   | (go_at_call 41
      refine (ktold_any en t v9 h9 w4).mono ?_
      rintro r w5 ⟨rfl,x5⟩
      have BO5:=Lib.hid (BO4.out.ext x5)
      have X5:=Lib.hid (X4.out.trans x5)
      clear x5)
   | ((with_reducible show wpList _ _ _ (Oper.mk none (.store 52 (.tmp 8) _) _ _ _ _ :: _) _ _)
      refine wpList_store_row rfl 52 _ _ rfl w.heap.size rfl 52 outZ (outC (enP en)) BO5.out rfl (by cases en <;> rfl) (outC_one _) (by rw [HZO.out]; cases en <;> rfl) ?_))
  exact bodyPost_ret (results_row_tmp rfl _ _ w.heap.size 52 (outC (enP en)) (0,0) _ rfl (BO5.out.row _) Tryz.underlying52 rfl (by rw [HZO.out]; cases en <;> rfl) (.int .i64 0) rfl) rfl ⟨_,HO.out,rfl,X5.out.setRow (by omega) _⟩
 ·have HO:Hid (KOut l nm av ck (.ret default)):=⟨fun _=>rfl,fun h=>absurd h h0⟩
  obtain ⟨a,ha⟩:∃ a,a=askN l nm av:=⟨_,rfl⟩
  rw [← ha] at HAS h0 ⊢
  have hb:(a != 0)=true:=by simpa using h0
  clear ha hA hV hc hfl HC hlen hna
  have B0:Hid (Blk (w.alloc (.cells outZ 52)) w.heap.size 52 outZ):=Blk.new _ _ _
  go_enter Tryz.func14,Tryz.ntmps14
  go_wp2_with (first
   | (go_at_call 39
      refine (HAS.out _ exA).mono ?_
      rintro r w1 ⟨rfl,x1⟩
      have BO1:=Lib.hid (B0.out.ext x1)
      have X1:Hid (Ext w w1):=((Ext.refl w).alloc _).trans x1
      clear x1)
   | ((with_reducible show wpList _ _ _ (Oper.mk none (.store 52 (.tmp 8) _) _ _ _ _ :: _) _ _)
      refine wpList_store_row rfl 52 _ _ rfl w.heap.size rfl 52 outZ outZ BO1.out rfl rfl (outC_one _) HZO.out ?_))
  exact bodyPost_ret (results_row_tmp rfl _ _ w.heap.size 52 outZ (0,0) _ rfl (BO1.out.row _) Tryz.underlying52 rfl HZO.out (.int .i64 a) rfl) rfl ⟨_,HO.out,rfl,X1.out.setRow (by omega) _⟩
end Go.Proofs.YtcoookehfhhhdaaGreatDoor.c
