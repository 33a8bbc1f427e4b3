/- Contracts of the stack machine's items, told and asked. Lengths are bounded. Contracts of the stack machine's played and Run, given that of its run. Conditions: right, sound code; lengths are bounded. -/
import Derived.Test.YtcoookehfhhhdaaGreatDoorKf
import Derived.Test.YtcoookehfhhhdaaGreatDoorSkL
import Derived.Test.YtcoookehfhhhdaaGreatDoorUns
import Derived.Deep.RegionHeld3
namespace Go.Proofs.YtcoookehfhhhdaaGreatDoor.c
open Go.RowKit
set_option linter.unusedVariables false
set_option maxRecDepth 100000
set_option maxHeartbeats 6400000
set_option linter.unusedSimpArgs false
theorem take_next {av:List Val} {q:Nat} (hq:q < av.length):av.take (q + 1)=av.take q ++ [av.getD q default]:=by
 rw [List.getD,List.getElem?_eq_getElem hq,Option.getD_some]
 exact (List.take_append_getElem hq).symm
theorem kitems_any (vA:Option Addr) (vc:Nat) (av:List Val) {na:Nat} (w:World) (hna:na=av.length) (hV:ValsAt w vA av) (hl:na ≤ 1000) :
  Calls Tryz.prog 74 #[.slice vA na vc] w fun e w'=>∃ A c,e=.returned (.slice A na c)∧At w' A av.length 3 (fun i j=>itC (av.getD i default) j)∧Ext w w':=by
 have HN:=Lib.hid hna
 have HV:=Lib.hid hV
 have HZV:Hid ((Tryz.prog.info? 50).map (·.size)=some 13):=by unfold Hid; kernel_rfl
 clear hna hV
 go_enter Tryz.func74,Tryz.ntmps74
 go_wp2
 go_loopw [3,4] (fun v i wr=>∃ q:Nat,q ≤ na∧i=.int .i64 q∧Ext w wr∧wr.ownsRow w.heap.size 86 3 v (av.take q).length (recCells 3 itC (av.take q))) (fun _ i _=>na - (intOf i).toNat)
 case atStart=>exact ⟨0,Nat.zero_le _,rfl,Ext.refl _,World.ownsRow_nil _ _ _ _⟩
 case round =>
  obtain ⟨q,hq,rfl,hx,ho⟩:=hrel
  have HX:=Lib.hid hx
  have HO:=Lib.hid ho
  clear hx ho
  by_cases hlt:q < na
  ·have hqa:q < av.length:=by rw [← HN.out]; exact hlt
   obtain ⟨bv,ov,rfl,hbv,_⟩:=(HV.out.ext HX.out).at_ (k:=q) hqa rfl
   have HR:=Lib.hid ((HV.out.ext HX.out).range hqa)
   obtain ⟨u,hu⟩:∃ u,u=av.getD q default:=⟨_,rfl⟩
   have HU:=Lib.hid hu
   rw [← hu] at HR
   have HIT:Hid (∀ w1,Calls Tryz.prog 117 #[.agg u.cells.toArray] w1 fun e w'=>e=.returned (.agg #[.int .i64 u.n,.bool u.null,.string u.err])∧Ext w1 w'):=fun w1=>kitem_any u w1
   clear hu
   go_wp2_with (first
    | ((with_reducible show wpList _ _ _ (Oper.mk (some 15) (.load 50 (.tmp 14)) _ _ _ _ :: _) _ _); refine wpList_load_mid rfl 50 _ rfl bv (ov + q * 13) rfl u.cells _ HR.out Tryz.underlying50 rfl HZV.out ?_)
    | (go_at_call 117
       refine (HIT.out _).mono ?_
       rintro r w7 ⟨rfl,x7⟩
       have X7:Hid (Ext wr (w7.alloc (.cells #[.int .i64 u.n,.bool u.null,.string u.err] 86))):=x7.alloc _
       clear x7)
    | (at_builtin
       refine wpList_append_its rfl _ _ rfl w.heap.size _ (av.take q) [u] rfl (own_ext HO.out X7.out) w7.heap.size 0 1 1 rfl rfl (lit_its (u:=u) (blk_newer rfl)) (by rw [List.length_take,List.length_singleton]; omega) (Nat.le_trans HX.out.size X7.out.size) ?_
       intro v8 w8 st8 g8))
   have X8:Hid (Ext w w8):=(HX.out.trans X7.out).grown g8 (fun k e=>((own_ext HO.out X7.out).lt k e).1)
   have O8:Hid (w8.ownsRow w.heap.size 86 3 v8 (av.take (q + 1)).length (recCells 3 itC (av.take (q + 1)))):=by
    have h9:=st8
    rw [HU.out,← take_next hqa] at h9
    exact h9
   clear st8 g8
   go_roundw
   case rel=>exact ⟨q + 1,by omega,by go_num,X8.out,O8.out⟩
   case measure=>simp [intOf]; omega
  ·obtain rfl:q=na:=by omega
   have e:av.take q=av:=by rw [HN.out]; exact List.take_length
   rw [e] at HO
   obtain ⟨A,c,hv,hat⟩:=own_rec_at HO.out
   rw [← HN.out] at hv
   subst hv
   go_wp2_with fail
   go_ret
   exact ⟨A,c,rfl,hat,HX.out⟩
def enP:En → En
 | .ret v=>.ret (pv v.n v.null v.err)
 | e=>e
def outR3 (n:Int) (nl:Bool) (er:ByteArray):Array Value:=#[.int .i64 0,.int .i64 0,.int .i64 0,.string ⟨#[]⟩,.bool false,.bool false,.int .i64 n,.bool nl,.string er,.int .i64 0,.int .i64 0,.string ⟨#[]⟩,.bool false,.bool false,.int .i64 0,.slice none 0 0]
theorem outR3_one (n:Int) (nl:Bool) (er:ByteArray):∀ u ∈ (outR3 n nl er).toList,u.oneCell'=true:=outC_one (.ret (pv n nl er))
theorem sizeOut:(Tryz.prog.info? 52).map (·.size)=some 16:=by kernel_rfl
theorem ktold_any (en:En) (t:Nat) (vC:Value) (h:Int) (w:World) :
  Calls Tryz.prog 41 #[.agg (itA (enV en)),.agg (logA (enE en).1 (enE en).2 t vC h)] w fun e w'=>e=.returned (.agg (outC (enP en)))∧Ext w w':=by
 have HZO:=Lib.hid sizeOut
 have HZI:=Lib.hid sizeIt
 cases en with
 | long =>
  have B0:Hid (Blk (((w.alloc (.cells #[.int .i64 0,.bool false,.string ⟨#[]⟩] 86)).alloc (.cells #[.int .i64 2,.int .i64 0,.int .i64 t,vC,.int .i64 h,.slice none 0 0,.int .i64 (-1)] 89)).alloc (.cells outZ 52)) (w.heap.size + 1 + 1) 52 outZ):=new3 _ _ _ _ _
  show Calls Tryz.prog 41 #[.agg #[.int .i64 0,.bool false,.string ⟨#[]⟩],.agg #[.int .i64 2,.int .i64 0,.int .i64 t,vC,.int .i64 h,.slice none 0 0,.int .i64 (-1)]] w fun e w'=>e=.returned (.agg (outC .long))∧Ext w w'
  go_enter Tryz.func41,Tryz.ntmps41
  go_wp2_with fail
  exact bodyPost_ret (results_cell_row rfl _ _ (w.heap.size + 1 + 1) 52 (outC .long) (0,0) _ rfl (new3 _ _ _ _ _) Tryz.underlying52 rfl HZO.out) rfl ⟨rfl,exA⟩
 | stop y =>
  show Calls Tryz.prog 41 #[.agg #[.int .i64 0,.bool false,.string ⟨#[]⟩],.agg #[.int .i64 1,.int .i64 y,.int .i64 t,vC,.int .i64 h,.slice none 0 0,.int .i64 (-1)]] w fun e w'=>e=.returned (.agg (outC (.stop y)))∧Ext w w'
  go_enter Tryz.func41,Tryz.ntmps41
  go_wp2_with fail
  exact bodyPost_ret (results_cell_row rfl _ _ (w.heap.size + 1 + 1) 52 (outC (.stop y)) (0,0) _ rfl (new3 _ _ _ _ _) Tryz.underlying52 rfl HZO.out) rfl ⟨rfl,exA⟩
 | ret v =>
  obtain ⟨vt,n,nl,er,vo⟩:=v
  show Calls Tryz.prog 41 #[.agg #[.int .i64 n,.bool nl,.string er],.agg #[.int .i64 0,.int .i64 0,.int .i64 t,vC,.int .i64 h,.slice none 0 0,.int .i64 (-1)]] w fun e w'=>e=.returned (.agg (outR3 n nl er))∧Ext w w'
  have B0:Hid (Blk (((w.alloc (.cells #[.int .i64 n,.bool nl,.string er] 86)).alloc (.cells #[.int .i64 0,.int .i64 0,.int .i64 t,vC,.int .i64 h,.slice none 0 0,.int .i64 (-1)] 89)).alloc (.cells outZ 52)) (w.heap.size + 1 + 1) 52 outZ):=new3 _ _ _ _ _
  have HVO:Hid (∀ w1,Calls Tryz.prog 75 #[.agg #[.int .i64 n,.bool nl,.string er]] w1 fun e w'=>e=.returned (.agg #[.int .i64 0,.int .i64 0,.string ⟨#[]⟩,.bool false,.bool false,.int .i64 n,.bool nl,.string er,.int .i64 0,.int .i64 0,.string ⟨#[]⟩,.bool false,.bool false])∧Ext w1 w'):=fun w1=>kvalue_any ⟨vt,n,nl,er,vo⟩ w1
  go_enter Tryz.func41,Tryz.ntmps41
  go_wp2_with (first
   | (go_at_call 75
      refine (HVO.out _).mono ?_
      rintro r w1 ⟨rfl,x1⟩
      have B1:=Lib.hid (B0.out.ext x1)
      have X1:Hid (Ext w w1):=(by unfold Hid; exact exA)
      clear x1)
   | ((with_reducible show wpList _ _ _ (Oper.mk none (.store 52 (.tmp 4) _) _ _ _ _ :: _) _ _)
      refine wpList_store_row rfl 52 _ _ rfl (w.heap.size + 1 + 1) rfl 52 outZ (outR3 n nl er) B1.out rfl rfl (outR3_one _ _ _) HZO.out ?_))
  exact bodyPost_ret (results_cell_row rfl _ _ (w.heap.size + 1 + 1) 52 (outR3 n nl er) (0,0) _ rfl (B1.out.row _) Tryz.underlying52 rfl HZO.out) rfl ⟨rfl,X1.out.setRow (by omega) _⟩
theorem kasked_any (A:Option Addr) (cap:Nat) (l:List Fc) {len:Nat} (nm:ByteArray) (vA:Option Addr) (vc:Nat) (av:List Val) {na:Nat} (w:World) (hlen:len=l.length) (hna:na=av.length) (hA:FcAt w A l) (hV:ValsAt w vA av) (hl:len ≤ 9223372036854775806) (hna2:na ≤ 9223372036854775806) (hc:l.length ≤ 48 → countS l ≤ 9223372036854775806) (hfl:∀ f,f ∈ l → f.code.length ≤ 9223372036854775806) :
  Calls Tryz.prog 39 #[.slice A len cap,.string nm,.slice vA na vc] w fun e w'=>e=.returned (.int .i64 (askN l nm av))∧Ext w w':=by
 have HVA:Hid (Calls Tryz.prog 30 #[.slice A len cap] w fun e w'=>e=.returned (.int .i64 (validS l))∧Ext w w'):=by rw [hlen]; exact rValidate_any A cap l w hA (by omega) hc hfl
 have HCH:Hid (∀ w1,Ext w w1 → Calls Tryz.prog 11 #[.slice A len cap] w1 fun e w'=>e=.returned (.tuple #[.int .i64 (checkE l).1,.int .i64 (checkE l).2.1,.int .i64 (checkE l).2.2])∧Ext w1 w'):=fun w1 x=>by rw [hlen]; exact rCheck_any A cap l w1 (hA.ext x) (by omega) hc hfl
 have HNM:Hid (∀ w1,Ext w w1 → Calls Tryz.prog 71 #[.slice A len cap,.string nm] w1 fun e w'=>e=.returned (.int .i64 (indexS l nm))∧w1=w'):=fun w1 x=>knamed_any A cap l nm w1 hlen (hA.ext x) hl
 have HSM:Hid (∀ w1,Ext w w1 → Calls Tryz.prog 72 #[.slice vA na vc] w1 fun e w'=>e=.returned (.int .i64 (smallE av))∧w1=w'):=fun w1 x=>ksmall_any vA vc av w1 hna (hV.ext x) hna2
 have hvc:validS l ≠ 0 → (checkE l).2.2=validS l:=fun h=>by unfold checkE; rw [if_neg h]
 have HA:=Lib.hid hA
 have HLN:=Lib.hid hlen
 have HNA:=Lib.hid hna
 by_cases h1:validS l=0
 ·by_cases h2:(checkE l).2.2=0
  ·rw [h1] at HVA
   rw [h2] at HCH
   obtain ⟨c1,hc1⟩:∃ c1,(checkE l).1=c1:=⟨_,rfl⟩
   obtain ⟨c2,hc2⟩:∃ c2,(checkE l).2.1=c2:=⟨_,rfl⟩
   rw [hc1,hc2] at HCH
   rcases index_spec l nm with ⟨e,_⟩ | ⟨k,e,hk,_⟩
   ·have HR:Hid (askN l nm av=4):=by unfold Hid askN; rw [if_pos h2,if_pos (by omega)]
    rw [e] at HNM
    rw [HR.out]
    clear HA hvc h1 h2 hc1 hc2 hlen hna hA hV hc hfl HSM e
    go_enter Tryz.func39,Tryz.ntmps39
    go_wp2_with (first
     | (go_at_call 30; refine (HVA.out).mono ?_; rintro r w1 ⟨rfl,x1⟩)
     | (go_at_call 11; refine (HCH.out _ exA).mono ?_; rintro r w2 ⟨rfl,x2⟩)
     | (go_at_call 71; refine (HNM.out _ exA).mono ?_; rintro r w3 ⟨rfl,rfl⟩))
    go_ret
    exact ⟨rfl,exA⟩
   ·obtain ⟨f,hf⟩:∃ f,f=l.getD k default:=⟨_,rfl⟩
    have HF:=Lib.hid hf
    have HE:=Lib.hid e
    have hkb:(k:Int) < (len:Int):=by omega
    have hkn:¬ ((k:Int) < 0):=by omega
    have HAT:Hid (∀ w1,Ext w w1 → ∃ b off,A=some ⟨b,off,none⟩∧b < w1.heap.size∧w1.cell? ⟨b,off + k * 9 + 1,none⟩=some (.int .i64 f.params)):=fun w1 x=>by
     obtain ⟨b,off,hAe,hb,c0,c1,_⟩:=(hA.ext x).at_ (k:=k) hk hf
     exact ⟨b,off,hAe,hb,c1⟩
    rw [e] at HNM
    have HR:Hid (askN l nm av=if (na:Int)=f.params then smallE av else 10):=by unfold Hid askN; rw [if_pos h2,e,if_neg (by omega),Int.toNat_natCast,← hf,hna]
    rw [HR.out]
    generalize smallE av=sm at *
    by_cases h3:(na:Int)=f.params
    ·rw [if_pos h3]
     have HP:=Lib.hid h3
     have hpb:((na:Int) != f.params)=false:=by simpa using h3
     clear HA hvc h1 h2 hc1 hc2 hlen hna hA hV hc hfl e hk hf HR h3
     go_enter Tryz.func39,Tryz.ntmps39
     go_wp2_with (first
      | (go_at_call 30; refine (HVA.out).mono ?_; rintro r w1 ⟨rfl,x1⟩)
      | (go_at_call 11; refine (HCH.out _ exA).mono ?_; rintro r w2 ⟨rfl,x2⟩)
      | (go_at_call 71; refine (HNM.out _ exA).mono ?_; rintro r w3 ⟨rfl,rfl⟩; obtain ⟨b,off,rfl,hb,c91⟩:=HAT.out w2 exA)
      | (go_at_call 72; refine (HSM.out _ exA).mono ?_; rintro r w4 ⟨rfl,rfl⟩))
     go_ret
     exact ⟨rfl,exA⟩
    ·rw [if_neg h3]
     have hpb:((na:Int) != f.params)=true:=by simpa using h3
     clear HA hvc h1 h2 hc1 hc2 hlen hna hA hV hc hfl e hk hf HR
     go_enter Tryz.func39,Tryz.ntmps39
     go_wp2_with (first
      | (go_at_call 30; refine (HVA.out).mono ?_; rintro r w1 ⟨rfl,x1⟩)
      | (go_at_call 11; refine (HCH.out _ exA).mono ?_; rintro r w2 ⟨rfl,x2⟩)
      | (go_at_call 71; refine (HNM.out _ exA).mono ?_; rintro r w3 ⟨rfl,rfl⟩; obtain ⟨b,off,rfl,hb,c91⟩:=HAT.out w2 exA))
     go_ret
     exact ⟨rfl,exA⟩
  ·have HR:Hid (askN l nm av=(checkE l).2.2):=by unfold Hid askN; rw [if_neg h2]
   rw [h1] at HVA
   rw [HR.out]
   obtain ⟨c1,hc1⟩:∃ c1,(checkE l).1=c1:=⟨_,rfl⟩
   obtain ⟨c2,hc2⟩:∃ c2,(checkE l).2.1=c2:=⟨_,rfl⟩
   obtain ⟨c3,hc3⟩:∃ c3,(checkE l).2.2=c3:=⟨_,rfl⟩
   rw [hc1,hc2,hc3] at HCH
   rw [hc3] at h2 ⊢
   have hb3:(c3 != 0)=true:=by simpa using h2
   clear HA hvc h1 hc1 hc2 hc3 hlen hna hA hV hc hfl HSM HR HNM
   go_enter Tryz.func39,Tryz.ntmps39
   go_wp2_with (first
    | (go_at_call 30; refine (HVA.out).mono ?_; rintro r w1 ⟨rfl,x1⟩)
    | (go_at_call 11; refine (HCH.out _ exA).mono ?_; rintro r w2 ⟨rfl,x2⟩))
   go_ret
   exact ⟨rfl,exA⟩
 ·have HR:Hid (askN l nm av=validS l):=by unfold Hid askN; rw [hvc h1,if_neg h1]
  rw [HR.out]
  generalize validS l=v at *
  have hb3:(v != 0)=true:=by simpa using h1
  clear HA hvc hlen hna hA hV hc hfl HSM HR HNM HCH
  go_enter Tryz.func39,Tryz.ntmps39
  go_wp2_with (first
   | (go_at_call 30; refine (HVA.out).mono ?_; rintro r w1 ⟨rfl,x1⟩))
  go_ret
  exact ⟨rfl,exA⟩
def zints (n:Nat):Array Value:=madeCells (Value.cells (.int .i64 0)) (n * 1)
theorem run_make_calls (w:World) (n:Nat) (hn:n ≤ 300):(Instr.makeSlice 65 (.int .i64 n) (.int .i64 n)).run Tryz.prog w=.ok (.slice (some ⟨w.heap.size,0,none⟩) n n) (w.alloc (.cells (zints n) 3)):=by
 obtain ⟨i,h1,h2,h3,h4⟩:=info_parts info_int
 have h:=run_makeSlice (P:=Tryz.prog) (w:=w) 65 3 i _ (by kernel_rfl) h1 h2 .i64 .i64 n n (by omega) (Int.le_refl _) (by rw [Int.toNat_natCast,h3]; omega) (by rw [h4]; omega) (by omega)
 rw [Int.toNat_natCast,h3] at h
 exact h
theorem calls_zero {w:World} {g n:Nat} (h:Blk w g 3 (zints n)):CallsAt w (.slice (some ⟨g,0,none⟩) n n) (List.replicate n 0):=by
 refine ⟨g,n,by simp,_,h,?_,fun k j hk hj=>?_⟩
 ·simp [zints,size_madeCells]
 ·simp only [List.length_replicate] at hk
  have hj0:j=0:=by omega
  subst hj0
  have e:(List.replicate n (0:Int)).getD k default=0:=by rw [List.getD,List.getElem?_replicate,if_pos hk]; rfl
  rw [e]
  simp [zints,madeCells,hk,intC]
  show (#[Value.int .i64 0]:Array Value)[k % 1]! = _
  rw [Nat.mod_one]
  rfl
theorem kplayed_any (A:Option Addr) (cap:Nat) (l:List Fc) {len:Nat} (nm:ByteArray) (vA:Option Addr) (vc:Nat) (av:List Val) {na:Nat} (ck:Bool) (w:World) (HC:∀ wb,FcAt wb A l → KCall l A len cap ck wb 1) (hlen:len=l.length) (hna:na=av.length) (hA:FcAt w A l) (hV:ValsAt w vA av) (hl:len ≤ 48) (hna2:na ≤ 1000) {j:Nat} (hj:indexS l nm=j) (hjl:j < l.length) (hpar:(av.length:Int)=(l.getD j default).params) {en:En} {t:Nat} (hr:RunK l ck (.call 1 j av) 0 en t) :
  Calls Tryz.prog 40 #[.slice A len cap,.string nm,.slice vA na vc,.bool ck,.int .i64 (-1)] w fun e w'=>∃ (v9:Value) (h9:Int),e=.returned (.tuple #[.agg (itA (enV en)),.agg (logA (enE en).1 (enE en).2 t v9 h9)])∧v9.oneCell'=true∧Ext w w':=by
 obtain ⟨rv,hrv⟩:∃ rv,rv=enV en:=⟨_,rfl⟩
 obtain ⟨⟨kd,y9⟩,hke⟩:∃ q,q=enE en:=⟨_,rfl⟩
 have HRUN:Hid (∀ (AG:Option Addr) (cG:Nat) (vC:Value) (W:World),Ext w W → At W AG av.length 3 (fun i j=>itC (av.getD i default) j) → CallsAt W vC (List.replicate len 0) → Calls Tryz.prog 73 #[.slice A len cap,.int .i64 j,.slice AG na cG,.int .i64 1,.bool ck,.agg (logA 0 0 0 vC 0)] W fun e w'=>∃ (gq nq cq:Nat) (h9:Int),e=.returned (.tuple #[.agg (itA rv),.agg (logA kd y9 t (.slice (some ⟨gq,0,none⟩) nq cq) h9)])∧Ext W w'):=by
  intro AG cG vC W hxw hat hcl
  have h9:=HC w hA j av 0 W AG na cG vC (List.replicate len 0) 0 en t (by omega) hna hpar (by omega) hxw (by simp) hcl hat hr
  refine h9.mono ?_
  rintro e w' ⟨c,rfl,⟨v9,L9,h9,rfl,hl9,hca⟩,hx9⟩
  rw [← hrv,← hke]
  obtain ⟨gq,cq,hvq,_⟩:=hca
  subst hvq
  exact ⟨gq,_,cq,h9,rfl,hx9⟩
 have HNM:Hid (∀ W:World,Ext w W → Calls Tryz.prog 71 #[.slice A len cap,.string nm] W fun e w'=>e=.returned (.int .i64 (j:Int))∧W=w'):=fun W hxw=>by
  have h9:=knamed_any A cap l nm W hlen (hA.ext hxw) (by omega)
  rw [hj] at h9
  exact h9
 have HIT:Hid (∀ W:World,Ext w W → Calls Tryz.prog 74 #[.slice vA na vc] W fun e w'=>∃ A c,e=.returned (.slice A na c)∧At w' A av.length 3 (fun i j=>itC (av.getD i default) j)∧Ext W w'):=fun W hxw=>kitems_any vA vc av W hna (hV.ext hxw) hna2
 have HZI:=Lib.hid sizeIt
 have HZL:=Lib.hid sizeLog
 rw [← hrv,← hke]
 clear hrv hke hr hj hjl hpar hA hV hlen hna HC
 have hmk:=fun w'=>run_make_calls w' len (by omega)
 go_enter Tryz.func40,Tryz.ntmps40
 go_upto_region 1 with fail
 have B0:Hid (Blk ((w.alloc (.cells #[.int .i64 0,.bool false,.string ⟨#[]⟩] 86)).alloc (.cells #[.int .i64 0,.int .i64 0,.int .i64 0,.slice none 0 0,.int .i64 0,.slice none 0 0,.int .i64 0] 89)) w.heap.size 86 zI):=(Blk.new _ _ _).alloc _
 have B1:Hid (Blk ((w.alloc (.cells #[.int .i64 0,.bool false,.string ⟨#[]⟩] 86)).alloc (.cells #[.int .i64 0,.int .i64 0,.int .i64 0,.slice none 0 0,.int .i64 0,.slice none 0 0,.int .i64 0] 89)) (w.heap.size + 1) 89 zL):=new2 _ _ _ _
 have X0:Hid (Ext w ((w.alloc (.cells #[.int .i64 0,.bool false,.string ⟨#[]⟩] 86)).alloc (.cells #[.int .i64 0,.int .i64 0,.int .i64 0,.slice none 0 0,.int .i64 0,.slice none 0 0,.int .i64 0] 89))):=((Ext.refl _).alloc _).alloc _
 generalize (w.alloc (.cells #[.int .i64 0,.bool false,.string ⟨#[]⟩] 86)).alloc (.cells #[.int .i64 0,.int .i64 0,.int .i64 0,.slice none 0 0,.int .i64 0,.slice none 0 0,.int .i64 0] 89)=W at B0 B1 X0 ⊢
 obtain ⟨z,hz⟩:∃ z,z=w.heap.size:=⟨_,rfl⟩
 have hzz:w.heap.size ≤ z:=by omega
 rw [← hz] at B0 B1 ⊢
 clear hz
 have hzn:z + 1 ≠ z:=by omega
 have hzn2:z ≠ z + 1:=by omega
 obtain ⟨vt,n9,nl9,er9,vo9⟩:=rv
 unfold itA logA at HRUN
 simp only [] at HRUN
 go_region_held3 (fun w'=>True) (exact trivial) (first
  | (go_at_call 71
     refine (HNM.out _ (by first | exact X0.out.drew | exact X0.out.drew.alloc _)).mono ?_
     rintro r w1 ⟨rfl,rfl⟩)
  | (go_at_call 74
     refine (HIT.out _ (by first | exact X0.out.drew | exact X0.out.drew.alloc _)).mono ?_
     rintro r w2 ⟨AG,cG,rfl,hat,x2⟩
     have XW2:Hid (Ext W w2):=by first | exact (Ext.refl _).drew.trans x2 | exact ((Ext.refl _).drew.alloc _).trans x2
     have HAT:=Lib.hid hat
     (first | (have HCA:Hid (∀ g,g=W.heap.size → CallsAt w2 (.slice (some ⟨g,0,none⟩) len len) (List.replicate len 0)):=(fun g hg=>by refine calls_zero (Blk.ext ?_ x2); exact blk_newer hg)) | skip)
     clear hat x2)
  | (go_at_call 73
     refine (HRUN.out AG cG _ _ (by first | exact X0.out.trans XW2.out | exact X0.out.trans (XW2.out.alloc _)) (by first | exact HAT.out | exact HAT.out.ext ((Ext.refl _).alloc _)) (by first | exact calls_zero (blk_newer rfl) | exact HCA.out _ rfl)).mono ?_
     rintro r w3 ⟨gq,nq,cq,h9,rfl,x3⟩
     have X3:Hid (Ext w w3):=by first | exact (X0.out.trans XW2.out).trans x3 | exact (X0.out.trans (XW2.out.alloc _)).trans x3
     have B03:Hid (Blk w3 z 86 zI):=by first | exact B0.out.ext (XW2.out.trans x3) | exact B0.out.ext ((XW2.out.alloc _).trans x3)
     have B13:Hid (Blk w3 (z + 1) 89 zL):=by first | exact B1.out.ext (XW2.out.trans x3) | exact B1.out.ext ((XW2.out.alloc _).trans x3)
     have a0:=B03.out.cell 0
     have a1:=B03.out.cell 1
     have a2:=B03.out.cell 2
     have fa0:=B03.out.frozen 0
     have fa1:=B03.out.frozen 1
     have fa2:=B03.out.frozen 2
     have b0:=B13.out.cell 0
     have b1:=B13.out.cell 1
     have b2:=B13.out.cell 2
     have b3:=B13.out.cell 3
     have b4:=B13.out.cell 4
     have b5:=B13.out.cell 5
     have b6:=B13.out.cell 6
     have fb0:=B13.out.frozen 0
     have fb1:=B13.out.frozen 1
     have fb2:=B13.out.frozen 2
     have fb3:=B13.out.frozen 3
     have fb4:=B13.out.frozen 4
     have fb5:=B13.out.frozen 5
     have fb6:=B13.out.frozen 6
     have za:=B03.out.lt
     have zb:=B13.out.lt
     unfold zI at a0 a1 a2
     unfold zL at b0 b1 b2 b3 b4 b5 b6
     simp only [List.getElem?_toArray,List.getElem?_cons_zero,List.getElem?_cons_succ] at a0 a1 a2 b0 b1 b2 b3 b4 b5 b6
     clear x3))
 all_goals
  have e0:(((((((((w3.setCell ⟨z,0,none⟩ (.int .i64 n9)).setCell ⟨z,1,none⟩ (.bool nl9)).setCell ⟨z,2,none⟩ (.string er9)).setCell ⟨z + 1,0,none⟩ (.int .i64 kd)).setCell ⟨z + 1,1,none⟩ (.int .i64 y9)).setCell ⟨z + 1,2,none⟩ (.int .i64 t)).setCell ⟨z + 1,3,none⟩ (.slice (some ⟨gq,0,none⟩) nq cq)).setCell ⟨z + 1,4,none⟩ (.int .i64 h9)).setCell ⟨z + 1,5,none⟩ (.slice none 0 0)).setCell ⟨z + 1,6,none⟩ (.int .i64 (-1))=(w3.setCells z 0 [.int .i64 n9,.bool nl9,.string er9]).setCells (z + 1) 0 [.int .i64 kd,.int .i64 y9,.int .i64 t,.slice (some ⟨gq,0,none⟩) nq cq,.int .i64 h9,.slice none 0 0,.int .i64 (-1)]:=rfl
  rw [e0]
  clear e0
  have B04:Hid (Blk ((w3.setCells z 0 [.int .i64 n9,.bool nl9,.string er9]).setCells (z + 1) 0 [.int .i64 kd,.int .i64 y9,.int .i64 t,.slice (some ⟨gq,0,none⟩) nq cq,.int .i64 h9,.slice none 0 0,.int .i64 (-1)]) z 86 #[.int .i64 n9,.bool nl9,.string er9]):=Blk.setCells_far (show Blk (w3.setCells z 0 [.int .i64 n9,.bool nl9,.string er9]) z 86 #[.int .i64 n9,.bool nl9,.string er9] from ((B03.out.set_ 0 (.int .i64 n9)).set_ 1 (.bool nl9)).set_ 2 (.string er9)) hzn2 _ _
  have B14:Hid (Blk ((w3.setCells z 0 [.int .i64 n9,.bool nl9,.string er9]).setCells (z + 1) 0 [.int .i64 kd,.int .i64 y9,.int .i64 t,.slice (some ⟨gq,0,none⟩) nq cq,.int .i64 h9,.slice none 0 0,.int .i64 (-1)]) (z + 1) 89 (logA kd y9 t (.slice (some ⟨gq,0,none⟩) nq cq) h9)):=(((((((B13.out.setCells_far hzn 0 [.int .i64 n9,.bool nl9,.string er9]).set_ 0 (.int .i64 kd)).set_ 1 (.int .i64 y9)).set_ 2 (.int .i64 t)).set_ 3 (.slice (some ⟨gq,0,none⟩) nq cq)).set_ 4 (.int .i64 h9)).set_ 5 (.slice none 0 0)).set_ 6 (.int .i64 (-1))
  have X4:Hid (Ext w ((w3.setCells z 0 [.int .i64 n9,.bool nl9,.string er9]).setCells (z + 1) 0 [.int .i64 kd,.int .i64 y9,.int .i64 t,.slice (some ⟨gq,0,none⟩) nq cq,.int .i64 h9,.slice none 0 0,.int .i64 (-1)])):=(X3.out.setCells (by omega) _ _).setCells (by omega) _ _
  generalize (w3.setCells z 0 [.int .i64 n9,.bool nl9,.string er9]).setCells (z + 1) 0 [.int .i64 kd,.int .i64 y9,.int .i64 t,.slice (some ⟨gq,0,none⟩) nq cq,.int .i64 h9,.slice none 0 0,.int .i64 (-1)]=w4 at B04 B14 X4 ⊢
  clear a0 a1 a2 b0 b1 b2 b3 b4 b5 b6 fa0 fa1 fa2 fb0 fb1 fb2 fb3 fb4 fb5 fb6 za zb B03 B13 X3
  go_wp2_with fail
  exact bodyPost_ret (results_row_row rfl _ _ z 86 #[.int .i64 n9,.bool nl9,.string er9] (0,0) _ rfl B04.out Tryz.underlying86 rfl HZI.out (z + 1) 89 (logA kd y9 t (.slice (some ⟨gq,0,none⟩) nq cq) h9) (0,0) _ rfl B14.out Tryz.underlying89 rfl HZL.out) rfl ⟨_,h9,rfl,rfl,X4.out⟩
end Go.Proofs.YtcoookehfhhhdaaGreatDoor.c
