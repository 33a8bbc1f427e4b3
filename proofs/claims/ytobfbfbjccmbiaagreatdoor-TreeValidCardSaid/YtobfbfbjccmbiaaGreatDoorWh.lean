/- What is read of a source is right: plain. No condition. The law TreeValid. The table strings.asciiSpace holds what its text lays. -/
import Derived.Test.YtobfbfbjccmbiaaGreatDoorWa
import Derived.Test.YtobfbfbjccmbiaaGreatDoorVm
import Derived.Test.YtobfbfbjccmbiaaGreatDoorWe
namespace Go.Proofs.YtobfbfbjccmbiaaGreatDoor.c
open Go.RowKit
set_option linter.unusedVariables false
set_option maxRecDepth 100000
set_option maxHeartbeats 1600000
set_option linter.unusedSimpArgs false
theorem typ_pr {L:List Tok} {a:Nat} {kn:Bool} {ty:Ty} {c:Nat} (h:typS L a false true false true kn true=.ok (ty,c)):(isTypeS ty && (ty.base != 0 && (!ty.err && (ty.base != 4 || kn))))=true:=by
 obtain ⟨h1,h2,_,h4⟩:=typS_in h
 rw [h1,h4 rfl]
 rcases base_in h1 with e | e | e | e | e | e <;> rw [e] at h2 ⊢ <;> first | rfl | exact absurd h2 (by decide) | (cases kn <;> first | rfl | exact absurd h2 (by decide))
theorem typ_fn {L:List Tok} {a:Nat} {ty:Ty} {c:Nat} (h:typS L a true true true true false true=.ok (ty,c)):(isTypeS ty && ty.base != 4)=true:=by
 obtain ⟨h1,h2,_,_⟩:=typS_in h
 rw [h1]
 rcases base_in h1 with e | e | e | e | e | e <;> rw [e] at h2 ⊢ <;> first | rfl | exact absurd h2 (by decide)
theorem typ_cd {L:List Tok} {a:Nat} {ty:Ty} {c:Nat} (h:typS L a false false false true false false=.ok (ty,c)):(isTypeS ty && ty.base != 4)=true∧(isPlainS ty && ((ty.base == 2 || ty.base == 3) || ty.base == 1))=true:=by
 obtain ⟨h1,h2,h3,h4⟩:=typS_in h
 rw [plainS_of h1 (h3 rfl) (h4 rfl),h1]
 rcases base_in h1 with e | e | e | e | e | e <;> rw [e] at h2 ⊢ <;> first | exact ⟨rfl,rfl⟩ | exact absurd h2 (by decide)
section
variable {L:List Tok}
theorem paS_vd {a:Nat}:Po (fun x _=>vd x=true) (paS L a):=by
 have h2:∀ kn b,Po (fun x _=>vd x=true) (paS2 L kn b):=fun kn b=>Po.nam fun hw=>Po.wnt fun _=>Po.thnT fun t d ht=>Po.ok (by
  have h1:=isW_nm hw
  have h3:=typ_pr ht
  simp only [vd,paV,h1,h3,Bool.and_true,Bool.true_and])
 exact Po.ite (fun _=>h2 _ _) (fun _=>h2 _ _)
theorem prS_vd:∀ (n:Nat) (acc:Nd) (b:Nat),L.length - b ≤ n → vd acc=true → Po (fun x _=>vd x=true) (prS L acc b)
 | n,acc,b,hn,ha=>by
  intro x c h
  cases hp:paS L b with
  | none=>rw [prS,hp] at h; cases h
  | some r =>
   cases r with
   | bad k=>rw [prS_bad hp] at h; cases h
   | ok y d =>
    have hl:=paS_comma hp
    have hv:=paS_vd y d hp
    have hav:vd (acc.app y)=true:=by rw [app_vd,ha,hv]; rfl
    rw [prS_ok hp] at h
    split at h
    ·cases h; exact hav
    ·unfold wnt at h
     split at h
     ·rename_i h1 h2
      have hd:=lt_tx h2 (by decide)
      cases n with
      | zero=>omega
      | succ n=>exact prS_vd n _ _ (by omega) hav x c h
     ·cases h
theorem lvl_vd (a:Nat):Po (fun x _=>vd x=true) (gram L (.lvl 0) a):=(gram_vd (.lvl 0) a).mono fun _ _ h=>(h trivial).1
theorem blk_vd (a:Nat):Po (fun x _=>vd x=true) (gram L .blk a):=(gram_vd .blk a).mono fun _ _ h=>(h trivial).1
theorem fnF_vd {nm:ByteArray} {ps:Nd} {b:Nat} (hn:isNameS nm=true) (hp:vd ps=true):Po (fun x _=>vd x=true) (fnF L nm ps b):=by
 unfold fnF
 exact Po.thnT fun t c ht=>Po.thn (blk_vd _) fun z d hd=>Po.ok (by
  have h3:=typ_fn ht
  have h4:emptyX zNd=true:=by decide +kernel
  simp only [vd,hn,h3,h4,hd,hp,if_true,Bool.and_true,Bool.true_and])
theorem dclS_vd {a:Nat}:Po (fun x _=>vd x=true) (dclS L a):=by
 unfold dclS cdS fnS
 refine Po.ite (fun _=>Po.nam fun hw=>Po.wnt fun _=>Po.thnT fun t b ht=>Po.wnt fun _=>Po.thn (lvl_vd _) fun x c hc=>Po.wnt fun _=>Po.ok ?_) (fun _=>Po.wnt fun _=>Po.nam fun hw=>Po.wnt fun _=>Po.ite (fun _=>fnF_vd (isW_nm hw) rfl) (fun _=>Po.thn (prS_vd _ _ _ (Nat.le_refl _) rfl) fun ps b hb=>fnF_vd (isW_nm hw) hb))
 have h1:=isW_nm hw
 obtain ⟨h3,h4⟩:=typ_cd ht
 simp only [Bool.and_eq_true] at h4
 obtain ⟨h5,h6⟩:=h4
 simp [vd,h1,h3,h5,h6,hc,Nd.len]
theorem prgS_vd:∀ (n:Nat) (acc:Nd) (a:Nat),L.length - a ≤ n → vd acc=true → Po (fun x _=>vd x=true) (prgS L acc a)
 | n,acc,a,hn,ha=>by
  intro x c h
  by_cases hlt:a < L.length
  ·cases hp:dclS L a with
   | none=>rw [prgS,dif_pos hlt,hp] at h; cases h
   | some r =>
    cases r with
    | bad k=>rw [prgS_bad hlt hp] at h; cases h
    | ok y d =>
     have hl:=dclS_lt y d hp
     have hav:vd (acc.app y)=true:=by rw [app_vd,ha,dclS_vd y d hp]; rfl
     rw [prgS_ok hlt hp] at h
     cases n with
     | zero=>omega
     | succ n=>exact prgS_vd n _ _ (by omega) hav x c h
  ·rw [prgS_end hlt] at h
   cases h
   exact ha
end
theorem parsS_ok {s:ByteArray} (h:(parsS s).2.2=0):vd (parsS s).1=true∧largeS (parsS s).1=false∧(lexS s).2.2=0:=by
 unfold parsS at h ⊢
 by_cases he:(lexS s).2.2=0
 ·rw [if_pos he] at h ⊢
  unfold prsL at h ⊢
  cases hp:prgS (lexS s).1 .nil 0 with
  | none=>exact ⟨rfl,rfl,he⟩
  | some r =>
   cases r with
   | bad k=>rw [hp] at h; cases h
   | ok x c =>
    rw [hp] at h
    simp only at h ⊢
    by_cases hl:largeS x=true
    ·rw [if_pos hl] at h; cases h
    ·rw [if_neg hl]
     exact ⟨prgS_vd _ _ _ (Nat.le_refl _) rfl x c hp,by simpa using hl,he⟩
 ·rw [if_neg he] at h; exact absurd h he
theorem parsS_bad {s:ByteArray} (h:(parsS s).2.2 ≠ 0):(parsS s).1=.nil:=by
 unfold parsS at h ⊢
 by_cases he:(lexS s).2.2=0
 ·rw [if_pos he] at h ⊢
  unfold prsL at h ⊢
  cases hp:prgS (lexS s).1 .nil 0 with
  | none=>rfl
  | some r =>
   cases r with
   | bad k=>rfl
   | ok x c =>
    rw [hp] at h
    simp only at h ⊢
    by_cases hl:largeS x=true
    ·rw [if_pos hl]
    ·rw [if_neg hl] at h; exact absurd rfl h
 ·rw [if_neg he]
theorem valid_any (s:ByteArray) (w:World) (g:Laid w):Calls Tryz.prog 5 #[.string s] w fun e w'=>e=.returned (.bool true)∧Ext w w':=by
 have HK:=Lib.hid fun w1 (X:Ext w w1)=>known_any w1 (g.ext X)
 have HG:=Lib.hid g
 by_cases hs:6000 < s.size
 ·have hsI:(6000:Int) < (s.size:Int):=by omega
  clear g
  go_enter Tryz.func5,Tryz.ntmps5
  go_wp2_with (first
   | (go_at_call 6; refine (HK.out _ (Ext.refl _)).mono ?_; rintro r w1 ⟨rfl,x1⟩))
  go_ret
  exact ⟨rfl,x1⟩
 have hsI:¬ (6000:Int) < (s.size:Int):=by omega
 have HP:=Lib.hid (prs_all s w g)
 have HL:=Lib.hid fun w1=>lex_any s w1
 have hok:=parsS_ok (s:=s)
 have hbad:=parsS_bad (s:=s)
 obtain ⟨x,n,e,hpe⟩:∃ x n e,parsS s=(x,n,e):=⟨_,_,_,rfl⟩
 obtain ⟨L,m,f,hle⟩:∃ L m f,lexS s=(L,m,f):=⟨_,_,_,rfl⟩
 rw [hpe] at HP hok hbad
 rw [hle] at HP HL hok
 simp only at HP HL hok hbad
 clear hpe hle g hs
 by_cases he:e=0
 ·subst he
  obtain ⟨h1,h2,h3⟩:=hok rfl
  subst h3
  have HV:Hid (vldS x=0):=by unfold Hid vldS; rw [h2,h1]; rfl
  clear hok hbad h1 h2
  go_enter Tryz.func5,Tryz.ntmps5
  go_wp2_with (first
   | (go_at_call 7; refine HP.out.mono ?_; rintro r w1 ⟨v,rfl,hsl,x1,hxz,hn,_⟩; have HN:=hn rfl; have HXZ:=Lib.hid hxz; have HSL:=Lib.hid hsl; clear hn hxz hsl)
   | (go_at_call 18; refine (HL.out _).mono ?_; rintro r w2 ⟨v2,rfl,ho,x2⟩; obtain ⟨A,cap,rfl,_⟩:=own_tok ho; clear ho)
   | (go_at_call 19; refine (validate_any x HXZ.out w2 v (fun b=>w.heap.size ≤ b∧b < w1.heap.size) ((HG.out.ext x1).ext x2) (HSL.out.mono (vp_le fun b hb hl=>⟨⟨hb,hl⟩,x2.out.block b hl⟩)) (fun b hb=>Nat.lt_of_lt_of_le hb.2 x2.out.size)).mono ?_; rw [HV.out]; rintro r w3 ⟨rfl,x3⟩)
   | (go_at_call 6; refine (HK.out _ ((x1.trans x2).trans x3)).mono ?_; rintro r w4 ⟨rfl,x4⟩))
  go_ret
  exact ⟨ret_bool (by simp [*]),((x1.trans x2).trans x3).trans x4⟩
 ·obtain rfl:=hbad he
  clear hok hbad
  by_cases hf:f=0
  ·subst hf
   by_cases h2:e=2
   ·subst h2
    go_enter Tryz.func5,Tryz.ntmps5
    go_wp2_with (first
     | (go_at_call 7; refine HP.out.mono ?_; rintro r w1 ⟨v,rfl,hsl,x1,_,_,hn⟩; obtain ⟨A1,c1,rfl,_⟩:=hsl.lp; have HN:(n:Int) ≤ (L.length:Int):=(by have:=hn rfl; omega); clear hn hsl)
     | (go_at_call 18; refine (HL.out _).mono ?_; rintro r w2 ⟨v2,rfl,ho,x2⟩; obtain ⟨A,cap,rfl,_⟩:=own_tok ho; clear ho)
     | (go_at_call 6; refine (HK.out _ (x1.trans x2)).mono ?_; rintro r w4 ⟨rfl,x4⟩))
    go_ret
    exact ⟨ret_bool (by simp [Nd.len, *]),(x1.trans x2).trans x4⟩
   ·have e2:(e == 2)=false:=beq_eq_false_iff_ne.2 h2
    have e0:(e == 0)=false:=beq_eq_false_iff_ne.2 he
    go_enter Tryz.func5,Tryz.ntmps5
    go_wp2_with (first
     | (go_at_call 7; refine HP.out.mono ?_; rintro r w1 ⟨v,rfl,hsl,x1,_⟩; obtain ⟨A1,c1,rfl,_⟩:=hsl.lp; clear hsl)
     | (go_at_call 18; refine (HL.out _).mono ?_; rintro r w2 ⟨v2,rfl,ho,x2⟩; obtain ⟨A,cap,rfl,_⟩:=own_tok ho; clear ho)
     | (go_at_call 6; refine (HK.out _ (x1.trans x2)).mono ?_; rintro r w4 ⟨rfl,x4⟩))
    go_ret
    exact ⟨ret_bool (by simp [Nd.len, *]),(x1.trans x2).trans x4⟩
  ·have f0:(f == 0)=false:=beq_eq_false_iff_ne.2 hf
   have e0:(e == 0)=false:=beq_eq_false_iff_ne.2 he
   go_enter Tryz.func5,Tryz.ntmps5
   go_wp2_with (first
    | (go_at_call 7; refine HP.out.mono ?_; rintro r w1 ⟨v,rfl,hsl,x1,_⟩; obtain ⟨A1,c1,rfl,_⟩:=hsl.lp; clear hsl)
    | (go_at_call 18; refine (HL.out _).mono ?_; rintro r w2 ⟨v2,rfl,ho,x2⟩; obtain ⟨A,cap,rfl,_⟩:=own_tok ho; clear ho)
    | (go_at_call 6; refine (HK.out _ (x1.trans x2)).mono ?_; rintro r w4 ⟨rfl,x4⟩))
   go_ret
   exact ⟨ret_bool (by simp [Nd.len, *]),(x1.trans x2).trans x4⟩
end Go.Proofs.YtobfbfbjccmbiaaGreatDoor.c
