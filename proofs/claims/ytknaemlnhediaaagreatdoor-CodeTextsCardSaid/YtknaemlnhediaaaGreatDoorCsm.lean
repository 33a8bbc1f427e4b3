/- When two stack codes are the same: contracts of the program's Same and of what it calls, and of the reference's Same. Conditions: lengths. -/
import Derived.Test.YtknaemlnhediaaaGreatDoorTxtC
import Derived.Deep.QuietTactic
import Derived.BigQuiet
namespace Go.Proofs.YtknaemlnhediaaaGreatDoor.c
open Go.RowKit
set_option linter.unusedVariables false
set_option maxRecDepth 100000
set_option maxHeartbeats 3200000
set_option linter.unusedSimpArgs false
theorem run_cd_neq (x y:Cd) (w:World):(binOp .neq 93 (.agg #[.int .i64 x.op,.int .i64 x.a,.int .i64 x.b,.int .i64 x.ty.base,.int .i64 x.ty.bits,.string x.ty.name,.bool x.ty.opt,.bool x.ty.err,.string x.name]) (.agg #[.int .i64 y.op,.int .i64 y.a,.int .i64 y.b,.int .i64 y.ty.base,.int .i64 y.ty.bits,.string y.ty.name,.bool y.ty.opt,.bool y.ty.err,.string y.name])).run Tryz.prog w=.ok (.bool (!sameCd x y)) w:=by
 obtain ⟨p,a,b,t,n⟩:=x
 obtain ⟨p2,a2,b2,t2,n2⟩:=y
 obtain ⟨tb,ti,tn,to_,te⟩:=t
 obtain ⟨ub,ui,un,uo,ue⟩:=t2
 go_simp
 unfold sameCd tyB
 by_cases h0:p=p2
 ·by_cases h1:a=a2
  ·by_cases h2:b=b2
   ·by_cases h3:tb=ub
    ·by_cases h4:ti=ui
     ·by_cases h5:tn.toList=un.toList
      ·cases to_ <;> cases te <;> cases uo <;> cases ue <;> by_cases h6:n.toList=n2.toList <;> simp [h0,h1,h2,h3,h4,h5,h6]
      ·simp [h0,h1,h2,h3,h4,h5]
     ·simp [h0,h1,h2,h3,h4]
    ·simp [h0,h1,h2,h3]
   ·simp [h0,h1,h2]
  ·simp [h0,h1]
 ·simp [h0]
theorem cEqual_any (A1 A2:Option Addr) (c1 c2:Nat) (L M:List Cd) {n m:Nat} (w:World) (hn:n=L.length) (hm:m=M.length) (h1:CdAt w A1 L) (h2:CdAt w A2 M) (hl:n ≤ 9223372036854775806) (hl2:m ≤ 9223372036854775806) :
  Calls Tryz.prog 70 #[.slice A1 n c1,.slice A2 m c2] w fun e w'=>e=.returned (.bool (eqB n m fun i=>sameCd (L.getD i default) (M.getD i default)))∧Ext w w':=by
 have H1:=Lib.hid h1
 have H2:=Lib.hid h2
 have HN:=Lib.hid hn
 have HM:=Lib.hid hm
 obtain ⟨p,hp⟩:∃ p:Nat → Bool,p=fun i=>sameCd (L.getD i default) (M.getD i default):=⟨_,rfl⟩
 have HP:=Lib.hid hp
 rw [← hp]
 clear h1 h2 hp hn hm
 by_cases e:n=m
 ·subst e
  go_enter Tryz.func70,Tryz.ntmps70
  go_wp2_with fail
  go_loopw [5,13] (fun _ i wr=>∃ k:Nat,k ≤ n∧i=.int .i64 k∧(∀ j,j < k → p j=true)∧Ext w wr) (fun _ i _=>n - (intOf i).toNat)
  case atStart=>exact ⟨0,Nat.zero_le _,rfl,by omega,Ext.refl _⟩
  case round =>
   obtain ⟨k,hk,rfl,ha,hx⟩:=hrel
   have HA:=Lib.hid ha
   clear ha
   by_cases hlt:k < n
   ·obtain ⟨x,hxx⟩:∃ x,x=L.getD k default:=⟨_,rfl⟩
    obtain ⟨y,hyy⟩:∃ y,y=M.getD k default:=⟨_,rfl⟩
    have HPK:Hid (p k=sameCd x y):=by unfold Hid; rw [HP.out,hxx,hyy]
    obtain ⟨b1,o1,rfl,hb1,d0,d1,d2,d3,d4,d5,d6,d7,d8⟩:=(H1.out.ext hx).at_ (k:=k) (by have:=HN.out; omega) hxx
    obtain ⟨b2,o2,rfl,hb2,u0,u1,u2,u3,u4,u5,u6,u7,u8⟩:=(H2.out.ext hx).at_ (k:=k) (by have:=HM.out; omega) hyy
    have hq:=run_cd_neq x y
    clear hxx hyy
    cases hs:sameCd x y
    ·rw [hs] at hq
     have HPT:Hid (p k=false):=by unfold Hid; rw [HPK.out,hs]
     clear hs
     go_wp2_with fail
     go_quiet (fail)
     go_wp2_with fail
     go_ret
     exact ⟨ret_bool (eqB_no hlt HPT.out).symm,hx.drewN _⟩
    ·rw [hs] at hq
     have HPT:Hid (p k=true):=by unfold Hid; rw [HPK.out,hs]
     clear hs
     go_wp2_with fail
     go_quiet (fail)
     go_wp2_with fail
     case roundEnd=>exact ⟨⟨k + 1,by omega,by go_num,(fun j hj=>by
      rcases Nat.lt_or_ge j k with h | h
      ·exact HA.out j h
      ·obtain rfl:j=k:=by omega
       exact HPT.out),hx.drewN _⟩,by simp [intOf]; omega⟩
   ·go_wp2_with fail
    go_ret
    exact ⟨ret_bool (eqB_all fun j hj=>HA.out j (by omega)).symm,hx⟩
 ·have HE:Hid (eqB n m p=false):=eqB_len e
  have hq:((n:Int) != (m:Int))=true:=by simp; omega
  rw [HE.out]
  clear e
  go_enter Tryz.func70,Tryz.ntmps70
  go_wp2_with fail
  go_ret
  exact ⟨rfl,Ext.refl _⟩
theorem fc_cells {w':World} {g:Nat} (y:Fc) (b:Blk w' g 62 #[.string y.name,.int .i64 y.params,.int .i64 y.places,.int .i64 y.ty.base,.int .i64 y.ty.bits,.string y.ty.name,.bool y.ty.opt,.bool y.ty.err,.slice y.A y.code.length y.cap]):w'.cell? ⟨g,0,none⟩=some (.string y.name)∧w'.cell? ⟨g,1,none⟩=some (.int .i64 y.params)∧w'.cell? ⟨g,2,none⟩=some (.int .i64 y.places)∧w'.cell? ⟨g,3,none⟩=some (.int .i64 y.ty.base)∧w'.cell? ⟨g,4,none⟩=some (.int .i64 y.ty.bits)∧w'.cell? ⟨g,5,none⟩=some (.string y.ty.name)∧w'.cell? ⟨g,6,none⟩=some (.bool y.ty.opt)∧w'.cell? ⟨g,7,none⟩=some (.bool y.ty.err)∧w'.cell? ⟨g,8,none⟩=some (.slice y.A y.code.length y.cap) :=
 ⟨b.cell 0,b.cell 1,b.cell 2,b.cell 3,b.cell 4,b.cell 5,b.cell 6,b.cell 7,b.cell 8⟩
theorem fc_one (x:Fc):∀ v ∈ (#[.string x.name,.int .i64 x.params,.int .i64 x.places,.int .i64 x.ty.base,.int .i64 x.ty.bits,.string x.ty.name,.bool x.ty.opt,.bool x.ty.err,.slice x.A x.code.length x.cap]:Array Value).toList,v.oneCell'=true:=by
 intro v hv
 simp at hv
 rcases hv with rfl | rfl | rfl | rfl | rfl | rfl | rfl | rfl | rfl <;> rfl
theorem eqFuncC_any (A1 A2:Option Addr) (c1 c2:Nat) (L M:List Fc) {n m:Nat} (K:Nat) (w:World) (hn:n=L.length) (hm:m=M.length) (h1:FcAt w A1 L) (h2:FcAt w A2 M) (hl:n ≤ 9223372036854775806) (hl2:m ≤ 9223372036854775806) (hK:Enters K) (p:Nat → Bool)
  (hp:∀ i w1,i < n → i < m → Ext w w1 → Calls Tryz.prog K #[.agg #[.string (L.getD i default).name,.int .i64 (L.getD i default).params,.int .i64 (L.getD i default).places,.int .i64 (L.getD i default).ty.base,.int .i64 (L.getD i default).ty.bits,.string (L.getD i default).ty.name,.bool (L.getD i default).ty.opt,.bool (L.getD i default).ty.err,.slice (L.getD i default).A (L.getD i default).code.length (L.getD i default).cap],.agg #[.string (M.getD i default).name,.int .i64 (M.getD i default).params,.int .i64 (M.getD i default).places,.int .i64 (M.getD i default).ty.base,.int .i64 (M.getD i default).ty.bits,.string (M.getD i default).ty.name,.bool (M.getD i default).ty.opt,.bool (M.getD i default).ty.err,.slice (M.getD i default).A (M.getD i default).code.length (M.getD i default).cap]] w1 fun e w2=>e=.returned (.bool (p i))∧Ext w1 w2) :
  Calls Tryz.prog 68 #[.slice A1 n c1,.slice A2 m c2,.func (.func K) #[] #[]] w fun e w'=>e=.returned (.bool (eqB n m p))∧Ext w w':=by
 have H1:=Lib.hid h1
 have H2:=Lib.hid h2
 have HP:=Lib.hid hp
 have HN:=Lib.hid hn
 have HM:=Lib.hid hm
 clear h1 h2 hp hn hm
 have HZ:Hid ((Tryz.prog.info? 62).map (·.size)=some 9):=by unfold Hid; kernel_rfl
 by_cases e:n=m
 ·subst e
  go_enter Tryz.func68,Tryz.ntmps68
  go_wp2_with fail
  go_loopw [7,17] (fun _ i wr=>∃ k:Nat,k ≤ n∧i=.int .i64 k∧(∀ j,j < k → p j=true)∧Ext w wr) (fun _ i _=>n - (intOf i).toNat)
  case atStart=>exact ⟨0,Nat.zero_le _,rfl,by omega,Ext.refl _⟩
  case round =>
   obtain ⟨k,hk,rfl,ha,hx⟩:=hrel
   have HA:=Lib.hid ha
   have HX:=Lib.hid hx
   clear ha hx
   by_cases hlt:k < n
   ·have hk1:k < L.length:=by have:=HN.out; omega
    have hk2:k < M.length:=by have:=HM.out; omega
    obtain ⟨x,hxx⟩:∃ x,x=L.getD k default:=⟨_,rfl⟩
    obtain ⟨y,hyy⟩:∃ y,y=M.getD k default:=⟨_,rfl⟩
    have HP1:Hid (∀ w1,Ext w w1 → Calls Tryz.prog K #[.agg #[.string x.name,.int .i64 x.params,.int .i64 x.places,.int .i64 x.ty.base,.int .i64 x.ty.bits,.string x.ty.name,.bool x.ty.opt,.bool x.ty.err,.slice x.A x.code.length x.cap],.agg #[.string y.name,.int .i64 y.params,.int .i64 y.places,.int .i64 y.ty.base,.int .i64 y.ty.bits,.string y.ty.name,.bool y.ty.opt,.bool y.ty.err,.slice y.A y.code.length y.cap]] w1 fun e w2=>e=.returned (.bool (p k))∧Ext w1 w2):=by
     intro w1 xx
     rw [hxx,hyy]
     exact HP.out k w1 hlt hlt xx
    obtain ⟨b1,o1,rfl,hb1,c0,c1,c2,c3,c4,c5,c6,c7,c8,_⟩:=(H1.out.ext HX.out).at_ (k:=k) hk1 hxx
    obtain ⟨b2,o2,rfl,hb2,d0,d1,d2,d3,d4,d5,d6,d7,d8,_⟩:=(H2.out.ext HX.out).at_ (k:=k) hk2 hyy
    have HC2:=Lib.hid (show ∀ w1,Ext wr w1 → w1.cell? ⟨b2,o2 + k * 9,none⟩=some (.string y.name)∧w1.cell? ⟨b2,o2 + k * 9 + 1,none⟩=some (.int .i64 y.params)∧w1.cell? ⟨b2,o2 + k * 9 + 2,none⟩=some (.int .i64 y.places)∧w1.cell? ⟨b2,o2 + k * 9 + 3,none⟩=some (.int .i64 y.ty.base)∧w1.cell? ⟨b2,o2 + k * 9 + 4,none⟩=some (.int .i64 y.ty.bits)∧w1.cell? ⟨b2,o2 + k * 9 + 5,none⟩=some (.string y.ty.name)∧w1.cell? ⟨b2,o2 + k * 9 + 6,none⟩=some (.bool y.ty.opt)∧w1.cell? ⟨b2,o2 + k * 9 + 7,none⟩=some (.bool y.ty.err)∧w1.cell? ⟨b2,o2 + k * 9 + 8,none⟩=some (.slice y.A y.code.length y.cap) from fun w1 xx=>by
     obtain ⟨bq,oq,hq,_,g⟩:=(H2.out.ext (HX.out.trans xx)).at_ (k:=k) hk2 hyy
     obtain ⟨rfl,rfl⟩:b2=bq∧o2=oq:=by cases hq; exact ⟨rfl,rfl⟩
     exact ⟨g.1,g.2.1,g.2.2.1,g.2.2.2.1,g.2.2.2.2.1,g.2.2.2.2.2.1,g.2.2.2.2.2.2.1,g.2.2.2.2.2.2.2.1,g.2.2.2.2.2.2.2.2.1⟩)
    clear hxx hyy d0 d1 d2 d3 d4 d5 d6 d7 d8 hk1 hk2
    go_wp2_with (first
     | ((with_reducible show wpList _ _ _ (Oper.mk none (.store 62 (.tmp 8) (.tmp 21)) _ _ _ _ :: _) _ _)
        refine store_new 62 _ _ rfl _ _ rfl rfl rfl rfl HZ.out (fc_one x) ?_
        intro w3 x3 B3
        have X3:=Lib.hid x3
        have B3':=Lib.hid B3
        have z3:=B3.lt
        have hb3:b2 < w3.heap.size:=Nat.lt_of_lt_of_le hb2 x3.size
        obtain ⟨d0,d1,d2,d3,d4,d5,d6,d7,d8⟩:=HC2.out w3 x3
        clear B3 x3)
     | ((with_reducible show wpList _ _ _ (Oper.mk none (.store 62 (.tmp 9) (.tmp 25)) _ _ _ _ :: _) _ _)
        refine store_new 62 _ _ rfl _ _ rfl rfl rfl rfl HZ.out (fc_one y) ?_
        intro w4 x4 B4
        have X4:=Lib.hid x4
        obtain ⟨e0,e1,e2,e3,e4,e5,e6,e7,e8⟩:=fc_cells x (B3'.out.ext x4)
        obtain ⟨f0,f1,f2,f3,f4,f5,f6,f7,f8⟩:=fc_cells y B4
        have z4:=B4.lt
        have z5:wr.heap.size < w4.heap.size:=Nat.lt_of_lt_of_le z3 x4.size
        clear B4 x4)
     | fail)
    simp only [hK _ _]
    go_wp2_with fail
    refine (HP1.out _ ((HX.out.trans X3.out).trans X4.out)).mono ?_
    rintro r w5 ⟨rfl,x5⟩
    cases hpk:p k
    ·go_wp2_with fail
     go_ret
     exact ⟨ret_bool (eqB_no hlt hpk).symm,((HX.out.trans X3.out).trans X4.out).trans x5⟩
    ·go_wp2_with fail
     go_roundw
     case rel=>exact ⟨k + 1,by omega,by go_num,(fun j hj=>by
      rcases Nat.lt_or_ge j k with h | h
      ·exact HA.out j h
      ·obtain rfl:j=k:=(by omega); exact hpk),((HX.out.trans X3.out).trans X4.out).trans x5⟩
     case measure=>simp [intOf]; omega
   ·go_wp2_with fail
    go_ret
    exact ⟨ret_bool (eqB_all fun j hj=>HA.out j (by omega)).symm,HX.out⟩
 ·have HE:Hid (eqB n m p=false):=eqB_len e
  have hq:((n:Int) != (m:Int))=true:=by simp; omega
  rw [HE.out]
  clear e
  go_enter Tryz.func68,Tryz.ntmps68
  go_wp2_with fail
  go_ret
  exact ⟨rfl,Ext.refl _⟩
theorem enters_csame1:Enters 69 := Enters.of Tryz.func69 (by kernel_rfl) (by kernel_rfl)
theorem csame1_any (f g:Fc) (w:World) (h1:CdAt w f.A f.code) (h2:CdAt w g.A g.code) (s1:f.code.length ≤ 9223372036854775806) (s2:g.code.length ≤ 9223372036854775806) :
  Calls Tryz.prog 69 #[.agg #[.string f.name,.int .i64 f.params,.int .i64 f.places,.int .i64 f.ty.base,.int .i64 f.ty.bits,.string f.ty.name,.bool f.ty.opt,.bool f.ty.err,.slice f.A f.code.length f.cap],.agg #[.string g.name,.int .i64 g.params,.int .i64 g.places,.int .i64 g.ty.base,.int .i64 g.ty.bits,.string g.ty.name,.bool g.ty.opt,.bool g.ty.err,.slice g.A g.code.length g.cap]] w fun e w'=>e=.returned (.bool (sameFc f g))∧Ext w w':=by
 have ht:=run_ty_eql f.ty g.ty
 obtain ⟨b0,e0⟩:∃ b,(f.name.toList == g.name.toList)=b:=⟨_,rfl⟩
 obtain ⟨b1,e1⟩:∃ b,(f.params == g.params)=b:=⟨_,rfl⟩
 obtain ⟨b2,e2⟩:∃ b,(f.places == g.places)=b:=⟨_,rfl⟩
 obtain ⟨b3,e3⟩:∃ b,tyB f.ty g.ty=b:=⟨_,rfl⟩
 obtain ⟨b4,e4⟩:∃ b,(eqB f.code.length g.code.length fun i=>sameCd (f.code.getD i default) (g.code.getD i default))=b:=⟨_,rfl⟩
 have HS:Hid (sameFc f g=(b0 && (b1 && (b2 && (b3 && b4))))):=by unfold Hid sameFc; rw [e0,e1,e2,e3,e4]
 have HE:Hid (∀ w1,Ext w w1 → Calls Tryz.prog 70 #[.slice f.A f.code.length f.cap,.slice g.A g.code.length g.cap] w1 fun e w'=>e=.returned (.bool b4)∧Ext w1 w'):=by
  intro w1 xx
  have h:=cEqual_any f.A g.A f.cap g.cap f.code g.code w1 rfl rfl (h1.ext xx) (h2.ext xx) s1 s2
  rwa [e4] at h
 rw [e3] at ht
 rw [HS.out]
 clear e3 e4 HS h1 h2 s1 s2
 cases b0
 case' true=>cases b1
 case' true.true=>cases b2
 case' true.true.true=>cases b3
 all_goals
  go_enter Tryz.func69,Tryz.ntmps69
  go_wp2_with (first
   | (go_at_call 70; refine (HE.out _ exL).mono ?_; rintro r w1 ⟨rfl,x1⟩))
  go_ret
  exact ⟨rfl,exL⟩
theorem cSame_any (A1 A2:Option Addr) (c1 c2:Nat) (l m:List Fc) {nl nm:Nat} (w:World) (hn:nl=l.length) (hm:nm=m.length) (h1:FcAt w A1 l) (h2:FcAt w A2 m) (hl:nl ≤ 9223372036854775806) (hl2:nm ≤ 9223372036854775806) (s1:∀ f,f ∈ l → f.code.length ≤ 9223372036854775806) (s2:∀ f,f ∈ m → f.code.length ≤ 9223372036854775806) :
  Calls Tryz.prog 16 #[.slice A1 nl c1,.slice A2 nm c2] w fun e w'=>e=.returned (.bool (sameC l m))∧Ext w w':=by
 have HE:=Lib.hid (eqFuncC_any A1 A2 c1 c2 l m 69 w hn hm h1 h2 hl hl2 enters_csame1 (fun i=>sameFc (l.getD i default) (m.getD i default)) (fun i w2 hi hj x2 =>
   csame1_any _ _ w2 ((h1.ext x2).sub _ (getD_mem (by omega))) ((h2.ext x2).sub _ (getD_mem (by omega))) (s1 _ (getD_mem (by omega))) (s2 _ (getD_mem (by omega)))))
 have HS:Hid (sameC l m=eqB nl nm fun i=>sameFc (l.getD i default) (m.getD i default)):=by unfold Hid sameC; rw [hn,hm]
 rw [HS.out]
 clear h1 h2 s1 s2 hn hm HS
 go_enter Tryz.func16,Tryz.ntmps16
 go_wp2_with (first
  | (go_at_call 68; refine (HE.out).mono ?_; rintro r w1 ⟨rfl,x1⟩))
 go_ret
 exact ⟨rfl,x1⟩
end Go.Proofs.YtknaemlnhediaaaGreatDoor.c
