/- Contract of the statement's runs: calls of two stack codes that end alike. Conditions: lengths. The law RegsThreads, given the contract of the stack machine's run. Tables hold what their text lays; lengths are bounded. -/
import Derived.Test.YtcoookehfhhhdaaGreatDoorKcall
import Derived.Test.YtcoookehfhhhdaaGreatDoorKi
import Derived.Test.YtcoookehfhhhdaaGreatDoorSkL
import Derived.Test.YtcoookehfhhhdaaGreatDoorCthread
import Derived.Test.YtcoookehfhhhdaaGreatDoorVisit
import Derived.Test.YtcoookehfhhhdaaGreatDoorRval
namespace Go.Proofs.YtcoookehfhhhdaaGreatDoor.c
open Go.RowKit
set_option linter.unusedVariables false
set_option maxRecDepth 100000
set_option maxHeartbeats 6400000
set_option linter.unusedSimpArgs false
theorem runs_err (A B:Option Addr) (ca cb:Nat) {ln mn:Nat} (nm:ByteArray) (vA:Option Addr) (vc na:Nat) (ck:Bool) (w:World) {er:Int} (hb:(er != 0)=true) (k y:Int) (u:Val) (k2 y2:Int) (u2:Val) (HL:Hid (∀ w1,Ext w w1 → Calls Tryz.prog 14 #[.slice A ln ca,.string nm,.slice vA na vc,.bool ck] w1 fun e w'=>e=.returned (.tuple #[.agg #[.int .i64 k,.int .i64 u.ty.base,.int .i64 u.ty.bits,.string u.ty.name,.bool u.ty.opt,.bool u.ty.err,.int .i64 u.n,.bool u.null,.string u.err,.int .i64 u.of.base,.int .i64 u.of.bits,.string u.of.name,.bool u.of.opt,.bool u.of.err,.int .i64 y,.slice none 0 0],.int .i64 er])∧Ext w1 w')) (HM:Hid (∀ w1,Ext w w1 → Calls Tryz.prog 14 #[.slice B mn cb,.string nm,.slice vA na vc,.bool ck] w1 fun e w'=>e=.returned (.tuple #[.agg #[.int .i64 k2,.int .i64 u2.ty.base,.int .i64 u2.ty.bits,.string u2.ty.name,.bool u2.ty.opt,.bool u2.ty.err,.int .i64 u2.n,.bool u2.null,.string u2.err,.int .i64 u2.of.base,.int .i64 u2.of.bits,.string u2.of.name,.bool u2.of.opt,.bool u2.of.err,.int .i64 y2,.slice none 0 0],.int .i64 er])∧Ext w1 w')) :
  Calls Tryz.prog 9 #[.slice A ln ca,.slice B mn cb,.agg #[.string nm,.slice vA na vc,.bool ck]] w fun e w'=>e=.returned (.bool true)∧Ext w w':=by
 go_enter Tryz.func9,Tryz.ntmps9
 go_wp2_with (first
  | (go_at_call 14; first
    | (with_reducible refine (HL.out _ exA).mono ?_; rintro r w1 ⟨rfl,x1⟩; have y1:=x1.facts; have z1:w.heap.size < w1.heap.size:=(by have h:=x1.size; simp at h; omega))
    | (with_reducible refine (HM.out _ exA).mono ?_; rintro r w2 ⟨rfl,x2⟩; have y2:=x2.facts; have z2:w1.heap.size < w2.heap.size:=(by have h:=x2.size; simp at h; omega); have z2b:w.heap.size < w2.heap.size:=(by omega))))
 go_ret
 exact ⟨rfl,exA⟩
theorem runs_long (A B:Option Addr) (ca cb:Nat) {ln mn:Nat} (nm:ByteArray) (vA:Option Addr) (vc na:Nat) (ck:Bool) (w:World) (k y:Int) (hk:(k == 2)=true) (u:Val) (k2 y2:Int) (u2:Val) (HL:Hid (∀ w1,Ext w w1 → Calls Tryz.prog 14 #[.slice A ln ca,.string nm,.slice vA na vc,.bool ck] w1 fun e w'=>e=.returned (.tuple #[.agg #[.int .i64 k,.int .i64 u.ty.base,.int .i64 u.ty.bits,.string u.ty.name,.bool u.ty.opt,.bool u.ty.err,.int .i64 u.n,.bool u.null,.string u.err,.int .i64 u.of.base,.int .i64 u.of.bits,.string u.of.name,.bool u.of.opt,.bool u.of.err,.int .i64 y,.slice none 0 0],.int .i64 0])∧Ext w1 w')) (HM:Hid (∀ w1,Ext w w1 → Calls Tryz.prog 14 #[.slice B mn cb,.string nm,.slice vA na vc,.bool ck] w1 fun e w'=>e=.returned (.tuple #[.agg #[.int .i64 k2,.int .i64 u2.ty.base,.int .i64 u2.ty.bits,.string u2.ty.name,.bool u2.ty.opt,.bool u2.ty.err,.int .i64 u2.n,.bool u2.null,.string u2.err,.int .i64 u2.of.base,.int .i64 u2.of.bits,.string u2.of.name,.bool u2.of.opt,.bool u2.of.err,.int .i64 y2,.slice none 0 0],.int .i64 0])∧Ext w1 w')) :
  Calls Tryz.prog 9 #[.slice A ln ca,.slice B mn cb,.agg #[.string nm,.slice vA na vc,.bool ck]] w fun e w'=>e=.returned (.bool true)∧Ext w w':=by
 go_enter Tryz.func9,Tryz.ntmps9
 go_wp2_with (first
  | (go_at_call 14; first
    | (with_reducible refine (HL.out _ exA).mono ?_; rintro r w1 ⟨rfl,x1⟩; have y1:=x1.facts; have z1:w.heap.size < w1.heap.size:=(by have h:=x1.size; simp at h; omega))
    | (with_reducible refine (HM.out _ exA).mono ?_; rintro r w2 ⟨rfl,x2⟩; have y2:=x2.facts; have z2:w1.heap.size < w2.heap.size:=(by have h:=x2.size; simp at h; omega); have z2b:w.heap.size < w2.heap.size:=(by omega))))
 go_ret
 exact ⟨rfl,exA⟩
theorem runs_same (A B:Option Addr) (ca cb:Nat) {ln mn:Nat} (nm:ByteArray) (vA:Option Addr) (vc na:Nat) (ck:Bool) (w:World) (k y:Int) (hk:(k == 2)=false) (u:Val) (HL:Hid (∀ w1,Ext w w1 → Calls Tryz.prog 14 #[.slice A ln ca,.string nm,.slice vA na vc,.bool ck] w1 fun e w'=>e=.returned (.tuple #[.agg #[.int .i64 k,.int .i64 u.ty.base,.int .i64 u.ty.bits,.string u.ty.name,.bool u.ty.opt,.bool u.ty.err,.int .i64 u.n,.bool u.null,.string u.err,.int .i64 u.of.base,.int .i64 u.of.bits,.string u.of.name,.bool u.of.opt,.bool u.of.err,.int .i64 y,.slice none 0 0],.int .i64 0])∧Ext w1 w')) (HM:Hid (∀ w1,Ext w w1 → Calls Tryz.prog 14 #[.slice B mn cb,.string nm,.slice vA na vc,.bool ck] w1 fun e w'=>e=.returned (.tuple #[.agg #[.int .i64 k,.int .i64 u.ty.base,.int .i64 u.ty.bits,.string u.ty.name,.bool u.ty.opt,.bool u.ty.err,.int .i64 u.n,.bool u.null,.string u.err,.int .i64 u.of.base,.int .i64 u.of.bits,.string u.of.name,.bool u.of.opt,.bool u.of.err,.int .i64 y,.slice none 0 0],.int .i64 0])∧Ext w1 w')) :
  Calls Tryz.prog 9 #[.slice A ln ca,.slice B mn cb,.agg #[.string nm,.slice vA na vc,.bool ck]] w fun e w'=>e=.returned (.bool true)∧Ext w w':=by
 go_enter Tryz.func9,Tryz.ntmps9
 go_wp2_with (first
  | (go_at_call 14; first
    | (with_reducible refine (HL.out _ exA).mono ?_; rintro r w1 ⟨rfl,x1⟩; have y1:=x1.facts; have z1:w.heap.size < w1.heap.size:=(by have h:=x1.size; simp at h; omega))
    | (with_reducible refine (HM.out _ exA).mono ?_; rintro r w2 ⟨rfl,x2⟩; have y2:=x2.facts; have z2:w1.heap.size < w2.heap.size:=(by have h:=x2.size; simp at h; omega); have z2b:w.heap.size < w2.heap.size:=(by omega)))
  | (go_at_call 16; refine (same_any _ _ _ _).mono ?_; rintro r w7 ⟨rfl,x7⟩))
 go_ret
 exact ⟨rfl,exA⟩
theorem kout_det (l:List Fc) (nm:ByteArray) (av:List Val) (ck:Bool):∃ o,KOut l nm av ck o∧∀ o2,KOut l nm av ck o2 → o2=o:=by
 by_cases h0:askN l nm av=0
 ·obtain ⟨en,t,hr⟩:=RunK.total l ck 1 (indexS l nm).toNat av 0
  refine ⟨enP en,⟨fun h=>absurd h0 h,fun _=>⟨en,t,hr,rfl⟩⟩,fun o2 h2=>?_⟩
  obtain ⟨en2,t2,hr2,rfl⟩:=h2.2 h0
  rw [(hr2.det hr).1]
 ·exact ⟨.ret default,⟨fun _=>rfl,fun h=>absurd h h0⟩,fun o2 h2=>h2.1 h0⟩
theorem runs_any (A B:Option Addr) (ca cb:Nat) (l m:List Fc) {ln mn:Nat} (nm:ByteArray) (vA:Option Addr) (vc:Nat) (av:List Val) {na:Nat} (ck:Bool) (w:World) (hln:ln=l.length) (hmn:mn=m.length) (hna:na=av.length) (hA:FcAt w A l) (hB:FcAt w B m) (hV:ValsAt w vA av) (hl:ln ≤ 9223372036854775806) (hm:mn ≤ 9223372036854775806) (hna2:na ≤ 1000)
  (hcl:l.length ≤ 48 → countS l ≤ 9223372036854775806) (hcm:m.length ≤ 48 → countS m ≤ 9223372036854775806) (hfl:∀ f,f ∈ l → f.code.length ≤ 9223372036854775806) (hfm:∀ f,f ∈ m → f.code.length ≤ 9223372036854775806) (HKL:KRuns l A ln ca ck) (HKM:KRuns m B mn cb ck) (ha:AlikeK l m nm av ck) :
  Calls Tryz.prog 9 #[.slice A ln ca,.slice B mn cb,.agg #[.string nm,.slice vA na vc,.bool ck]] w fun e w'=>e=.returned (.bool true)∧Ext w w':=by
 obtain ⟨ea,hea,dea⟩:=kout_det l nm av ck
 obtain ⟨eb,heb,deb⟩:=kout_det m nm av ck
 have HL:Hid (∀ w1,Ext w w1 → Calls Tryz.prog 14 #[.slice A ln ca,.string nm,.slice vA na vc,.bool ck] w1 fun e w'=>e=.returned (.tuple #[.agg (outC ea),.int .i64 (askN l nm av)])∧Ext w1 w'):=fun w1 x=>by
  refine (kRun_any A ca l nm vA vc av ck w1 HKL hln hna (hA.ext x) (hV.ext x) hl hna2 hcl hfl).mono ?_
  rintro e w' ⟨o,ho,rfl,hx⟩
  rw [dea o ho]
  exact ⟨rfl,hx⟩
 have HM:Hid (∀ w1,Ext w w1 → Calls Tryz.prog 14 #[.slice B mn cb,.string nm,.slice vA na vc,.bool ck] w1 fun e w'=>e=.returned (.tuple #[.agg (outC eb),.int .i64 (askN l nm av)])∧Ext w1 w'):=fun w1 x=>by
  refine (kRun_any B cb m nm vA vc av ck w1 HKM hmn hna (hB.ext x) (hV.ext x) hm hna2 hcm hfm).mono ?_
  rintro e w' ⟨o,ho,rfl,hx⟩
  rw [deb o ho,ha.1]
  exact ⟨rfl,hx⟩
 obtain ⟨e,hee⟩:∃ e,e=askN l nm av:=⟨_,rfl⟩
 rw [← hee] at HL HM
 have hcases:e=0 → ea=.long ∨ (eb=ea∧ea ≠ .long):=fun h0=>by
  have h0:askN l nm av=0:=by omega
  obtain ⟨en,t,hr,rfl⟩:=hea.2 h0
  obtain ⟨en2,t2,hr2,rfl⟩:=heb.2 (by rw [ha.1]; exact h0)
  rcases ha.2 en t en2 t2 h0 hr hr2 with rfl | rfl
  ·exact .inl rfl
  ·by_cases h:enP en2=.long
   ·exact .inl h
   ·exact .inr ⟨rfl,h⟩
 clear hea heb dea deb hee hA hB hV hcl hcm hfl hfm hln hmn hna HKL HKM ha
 by_cases h0:e=0
 ·subst h0
  rcases hcases rfl with rfl | ⟨rfl,hne⟩
  ·obtain ⟨k,y,u,_,h2⟩:=enC_split eb
   rw [h2] at HM
   exact runs_long A B ca cb nm vA vc na ck w 2 0 rfl default k y u HL HM
  ·obtain ⟨k,y,u,h2,hk⟩:∃ (k y:Int) (u:Val),outC eb=#[.int .i64 k,.int .i64 u.ty.base,.int .i64 u.ty.bits,.string u.ty.name,.bool u.ty.opt,.bool u.ty.err,.int .i64 u.n,.bool u.null,.string u.err,.int .i64 u.of.base,.int .i64 u.of.bits,.string u.of.name,.bool u.of.opt,.bool u.of.err,.int .i64 y,.slice none 0 0]∧(k == 2)=false:=by
    cases eb with
    | ret v=>exact ⟨0,0,v,rfl,rfl⟩
    | stop y=>exact ⟨1,y,default,rfl,rfl⟩
    | long=>exact absurd rfl hne
   rw [h2] at HL HM
   exact runs_same A B ca cb nm vA vc na ck w k y hk u HL HM
 ·obtain ⟨k,y,u,_,h2⟩:=enC_split ea
  obtain ⟨k2,y2,u2,_,h3⟩:=enC_split eb
  rw [h2] at HL
  rw [h3] at HM
  exact runs_err A B ca cb nm vA vc na ck w (by simpa using h0) k y u k2 y2 u2 HL HM
theorem count_mulK (l:List Fc) (M:Nat) (h:∀ f,f ∈ l → f.code.length ≤ M):countS l ≤ l.length * M:=by
 unfold countS
 induction l with
 | nil=>simp
 | cons f l ih =>
  have h1:=h f (List.mem_cons_self ..)
  have h2:=ih fun g hg=>h g (List.mem_cons_of_mem _ hg)
  rw [List.map_cons,List.sum_cons,List.length_cons,Nat.add_mul]
  omega
theorem strs_one {w:World} {g:Nat} {nm:ByteArray} {t:TypeId} (h:Blk w g t #[.string nm]):StrsAt w (some ⟨g,0,none⟩) [nm]:=by
 intro _
 refine ⟨g,0,rfl,h.lt,fun i j hi hj=>?_⟩
 obtain rfl:i=0:=by simp at hi; omega
 obtain rfl:j=0:=by omega
 exact h.cell 0
theorem regsThreads_of (HK:∀ (l:List Fc) (A:Option Addr) (len cap:Nat) (ck:Bool),len=l.length → KRuns l A len cap ck) (A:Option Addr) (ca:Nat) (l:List Fc) {ln:Nat} (nm:ByteArray) (vA:Option Addr) (vc:Nat) (av:List Val) {na:Nat} (ck:Bool) (w:World) (L:Laid w) (hln:ln=l.length) (hna:na=av.length) (hA:FcAt w A l) (hV:ValsAt w vA av) (hl:ln ≤ 140737488355328) (hn:na ≤ 140737488355328) (hfl:∀ f,f ∈ l → f.code.length ≤ 140737488355328) :
  Calls Tryz.prog 3 #[.slice A ln ca,.agg #[.string nm,.slice vA na vc,.bool ck]] w fun e w'=>e=.returned (.bool true)∧Ext w w':=by
 have hc:l.length ≤ 100 → countS l ≤ 9223372036854775806:=fun h=>by
  have h1:=count_mulK l _ hfl
  have h2:=Nat.mul_le_mul_right 140737488355328 h
  omega
 have hfl2:∀ f,f ∈ l → f.code.length ≤ 9223372036854775806:=fun f hf=>by have:=hfl f hf; omega
 have HLG:Hid (∀ w1,Ext w w1 → Calls Tryz.prog 5 #[.slice A ln ca] w1 fun e w'=>e=.returned (.bool (longS l))∧w1=w'):=fun w1 x=>by
  rw [hln]; exact long_any A ca l w1 (hA.ext x) (by omega) hc
 have HKN:Hid (∀ w1,Ext w w1 → Calls Tryz.prog 6 #[] w1 fun e w'=>e=.returned (.bool true)∧Ext w1 w'):=fun w1 x=>rknown_any w1 (L.ext x)
 have HTH:Hid (∀ w1,Ext w w1 → Calls Tryz.prog 7 #[.slice A ln ca] w1 fun e w'=>ThrRet l (checkE l).2.2 e w1 w'):=fun w1 x=>by
  rw [hln]; exact cThread_any A ca l w1 (L.ext x) (hA.ext x) (by omega) (fun h=>hc (by omega)) hfl2
 have HCU:Hid (∀ g w1,Ext w w1 → StrsAt w1 (some ⟨g,0,none⟩) [nm] → Calls Tryz.prog 8 #[.slice A ln ca,.slice (some ⟨g,0,none⟩) 1 1] w1 fun e w'=>CutRet l [nm] (cutE l [nm]) e w1 w'):=fun g w1 x hs=>by
  rw [hln]; exact cCut_any A ca l _ 1 [nm] w1 (L.ext x) (hA.ext x) hs (by simp) (by omega) (fun h=>hc (by omega)) hfl2
 have HRN:Hid ((checkE l).2.2=0 → na ≤ 1000 → ∀ (M:List Fc) (A1:Option Addr) (c1:Nat) (w1:World),checkE M=(0,0,0) → AlikeK l M nm av ck → Ext w w1 → FcAt w1 A1 M → Calls Tryz.prog 9 #[.slice A ln ca,.slice A1 M.length c1,.agg #[.string nm,.slice vA na vc,.bool ck]] w1 fun e w'=>e=.returned (.bool true)∧Ext w1 w'):=fun h0 hna2 M A1 c1 w1 hk hak x hM=>by
  have h2:=valid_parts (check_ok (l:=M) (by rw [hk])).1
  exact runs_any A A1 ca c1 l M nm vA vc av ck w1 hln rfl hna (hA.ext x) hM (hV.ext x) (by omega) (by omega) hna2 (fun h=>hc (by omega)) (fun _=>by omega) hfl2 (fun f hf=>by have:=len_count hf; omega) (HK l A ln ca ck hln) (HK M A1 M.length c1 ck rfl) hak
 have HT1:Hid ((checkE l).2.2=0 → ∀ M,ThrL l M → checkE M=(0,0,0)∧AlikeK l M nm av ck):=fun h0 M hM=>⟨thr_check hM h0,thr_alike h0 hM nm av ck⟩
 have HT2:Hid ((checkE l).2.2=0 → ∀ M,CutL l (Need l (Roots l [nm])) M → (∀ r,r ∈ [nm] → 0 ≤ indexS l r) → checkE M=(0,0,0)∧AlikeK l M nm av ck):=fun h0 M hM hr=>⟨hM.of.check h0 fun i j _ h1 h2=>.call h1 h2,cut_alike h0 hM (hr nm (List.mem_singleton.2 rfl)) av ck⟩
 obtain ⟨lb,hlb⟩:∃ lb,lb=longS l:=⟨_,rfl⟩
 rw [← hlb] at HLG
 obtain ⟨ec,hec⟩:∃ e,e=cutE l [nm]:=⟨_,rfl⟩
 rw [← hec] at HCU
 generalize (checkE l).2.2=er at *
 clear hlb hec hA hV hfl hfl2 hln hna hc L HK
 cases lb
 ·by_cases hn2:na ≤ 300
  ·by_cases h0:er=0
   ·subst h0
    have GR:=Lib.hid (HRN.out rfl (by omega))
    have G1:=Lib.hid (HT1.out rfl)
    have G2:=Lib.hid (HT2.out rfl)
    clear HRN HT1 HT2
    by_cases h1:ec=0
    ·subst h1
     go_enter Tryz.func3,Tryz.ntmps3
     go_wp2_with (first
      | (go_at_call 5; refine (HLG.out _ exA).mono ?_; rintro r w' ⟨rfl,rfl⟩)
      | (go_at_call 7; refine (HTH.out _ exA).mono ?_; rintro r w1 ⟨v1,m1,A1,c1,rfl,rfl,f1,t1,n1,x1⟩; have F1:=Lib.hid f1; have K1:=Lib.hid (G1.out m1 (t1 rfl)); clear f1 t1 n1; have y1:=x1.facts; have z1:w.heap.size < w1.heap.size:=(by have h:=x1.size; (try simp at h); omega))
      | (go_at_call 8; refine (HCU.out _ _ exA (strs_one (Blk.new _ _ _))).mono ?_; rintro r w2 ⟨v2,m2,A2,c2,rfl,rfl,f2,t2,n2,x2⟩; have F2:=Lib.hid f2; have K2:=Lib.hid (G2.out m2 (t2 rfl).1 (t2 rfl).2); clear f2 t2 n2; have y2:=x2.facts; have z2:w.heap.size < w2.heap.size:=(by have h:=x2.size; (try simp at h); omega); have tk:=True.intro)
      | (go_at_call 9; have _t:=tk; refine (GR.out m1 A1 c1 _ K1.out.1 K1.out.2 exA (F1.out.ext exA)).mono ?_; rintro r w3 ⟨rfl,x3⟩; clear tk; have y3:=x3.facts; have z3:w.heap.size < w3.heap.size:=(by have h:=x3.size; (try simp at h); omega))
      | (go_at_call 9; refine (GR.out m2 A2 c2 _ K2.out.1 K2.out.2 exA (F2.out.ext exA)).mono ?_; rintro r w4 ⟨rfl,x4⟩)
      | (go_at_call 6; refine (HKN.out _ exA).mono ?_; rintro r w8 ⟨rfl,x8⟩))
     go_ret
     exact ⟨rfl,exA⟩
    ·have hb:(ec != 0)=true:=by simpa using h1
     go_enter Tryz.func3,Tryz.ntmps3
     go_wp2_with (first
      | (go_at_call 5; refine (HLG.out _ exA).mono ?_; rintro r w' ⟨rfl,rfl⟩)
      | (go_at_call 7; refine (HTH.out _ exA).mono ?_; rintro r w1 ⟨v1,m1,A1,c1,rfl,rfl,f1,t1,n1,x1⟩; have F1:=Lib.hid f1; have K1:=Lib.hid (G1.out m1 (t1 rfl)); clear f1 t1 n1; have y1:=x1.facts; have z1:w.heap.size < w1.heap.size:=(by have h:=x1.size; (try simp at h); omega))
      | (go_at_call 8; refine (HCU.out _ _ exA (strs_one (Blk.new _ _ _))).mono ?_; rintro r w2 ⟨v2,m2,A2,c2,rfl,rfl,f2,t2,n2,x2⟩; clear f2 t2 n2; have y2:=x2.facts; have z2:w.heap.size < w2.heap.size:=(by have h:=x2.size; (try simp at h); omega))
      | (go_at_call 9; refine (GR.out m1 A1 c1 _ K1.out.1 K1.out.2 exA (F1.out.ext exA)).mono ?_; rintro r w3 ⟨rfl,x3⟩)
      | (go_at_call 6; refine (HKN.out _ exA).mono ?_; rintro r w8 ⟨rfl,x8⟩))
     go_ret
     exact ⟨rfl,exA⟩
   ·have hb:(er != 0)=true:=by simpa using h0
    clear HRN HT1 HT2
    go_enter Tryz.func3,Tryz.ntmps3
    go_wp2_with (first
     | (go_at_call 5; refine (HLG.out _ exA).mono ?_; rintro r w' ⟨rfl,rfl⟩)
     | (go_at_call 7; refine (HTH.out _ exA).mono ?_; rintro r w1 ⟨v1,m1,A1,c1,rfl,rfl,f1,t1,n1,x1⟩; clear f1 t1 n1; have y1:=x1.facts; have z1:w.heap.size < w1.heap.size:=(by have h:=x1.size; (try simp at h); omega))
     | (go_at_call 6; refine (HKN.out _ exA).mono ?_; rintro r w8 ⟨rfl,x8⟩))
    go_ret
    exact ⟨rfl,exA⟩
  ·have hb:¬ ((na:Int) ≤ 300):=by omega
   have hb2:(300:Int) < (na:Int):=by omega
   clear HRN HT1 HT2
   go_enter Tryz.func3,Tryz.ntmps3
   go_wp2_with (first
    | (go_at_call 5; refine (HLG.out _ exA).mono ?_; rintro r w' ⟨rfl,rfl⟩)
    | (go_at_call 6; refine (HKN.out _ exA).mono ?_; rintro r w8 ⟨rfl,x8⟩))
   go_ret
   exact ⟨rfl,exA⟩
 ·clear HRN HT1 HT2
  go_enter Tryz.func3,Tryz.ntmps3
  go_wp2_with (first
   | (go_at_call 5; refine (HLG.out _ exA).mono ?_; rintro r w' ⟨rfl,rfl⟩)
   | (go_at_call 6; refine (HKN.out _ exA).mono ?_; rintro r w8 ⟨rfl,x8⟩))
  go_ret
  exact ⟨rfl,exA⟩
end Go.Proofs.YtcoookehfhhhdaaGreatDoor.c
