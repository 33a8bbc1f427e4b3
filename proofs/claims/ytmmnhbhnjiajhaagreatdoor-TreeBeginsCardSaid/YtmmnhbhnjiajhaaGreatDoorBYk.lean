/- TreeBegins: with the tokens up to the one that does not fit any source is refused at this token. Condition: the package's variables lie as they do at the start. -/
import Derived.Test.YtmmnhbhnjiajhaaGreatDoorBYj
import Derived.Test.YtmmnhbhnjiajhaaGreatDoorBVm
import Derived.Test.YtmmnhbhnjiajhaaGreatDoorBUq
import Derived.Laws.AppendOwnNone
namespace Go.Proofs.YtmmnhbhnjiajhaaGreatDoor.c
open Go.RowKit
set_option linter.unusedVariables false
set_option maxRecDepth 100000
set_option maxHeartbeats 6400000
set_option linter.unusedSimpArgs false
theorem lexS_small {s:ByteArray} (h:(lexS s).2.2=0):s.size ≤ 4000∧(lexS s).1.length ≤ 1000:=by
 unfold lexS at h ⊢
 split at h
 ·exact absurd (show (3:Int)=0 from h) (by decide)
 ·rename_i h1
  rw [if_neg h1]
  split at h
  ·rename_i h2
   rw [if_pos h2]
   split at h
   ·exact absurd (show (3:Int)=0 from h) (by decide)
   ·rename_i h3
    rw [if_neg h3]
    exact ⟨by omega,by simpa using h3⟩
  ·exact absurd (show (2:Int)=0 from h) (by decide)
theorem lexS_wf {s:ByteArray} (h:(lexS s).2.2=0):∀ x ∈ (lexS s).1,x.text.size ≤ 4000:=by
 obtain ⟨h1,h2⟩:=lexS_yl h
 rw [h1]
 exact fun x hx=>(yl_wf s (lexS_small h).1 s.size 0 (by omega) x hx (h2 x hx)).2.1
theorem flat_take:∀ (L:List Tok) (k:Nat),(L.take k).flatMap Tok.cells=(L.flatMap Tok.cells).take (k * 3)
 | [],k=>by simp
 | x :: L,0=>by simp
 | x :: L,k + 1=>by
  rw [List.take_succ_cons,List.flatMap_cons,List.flatMap_cons,flat_take L k,Nat.succ_mul]
  simp [Tok.cells]
theorem flat_len:∀ L:List Tok,(L.flatMap Tok.cells).length=L.length * 3
 | []=>rfl
 | x :: L=>by
  rw [List.flatMap_cons,List.length_append,flat_len L,List.length_cons]
  show 3 + L.length * 3=_
  omega
theorem flat_one (L:List Tok):∀ u ∈ L.flatMap Tok.cells,u.oneCell'=true:=by
 intro u hu
 obtain ⟨x,_,hx⟩:=List.mem_flatMap.1 hu
 simp only [Tok.cells,List.mem_cons,List.not_mem_nil,or_false] at hx
 rcases hx with rfl | rfl | rfl <;> rfl
theorem own_some {w:World} {base n:Nat} {v:Value} {L:List Tok} (h:w.ownsRow base 84 3 v n (L.flatMap Tok.cells)):(v=.slice none 0 0∧n=0) ∨ ∃ g cap,v=.slice (some ⟨g,0,none⟩) n cap∧n ≤ cap∧g < w.heap.size∧∀ j u,(L.flatMap Tok.cells)[j]?=some u → w.cell? ⟨g,j,none⟩=some u:=by
 rcases h.2 with ⟨rfl,e⟩ | ⟨g,cap,cur,rfl,hb,hg,hn,_⟩
 ·exact .inl ⟨rfl,e⟩
 ·refine .inr ⟨g,cap,rfl,hn,Blk.lt (t := 84) (cs:=cur) hg,fun j u hj=>?_⟩
  have hl:=(List.getElem?_eq_some_iff.1 hj).1
  rw [h.cellAt (g:=g) j (by rw [← h.1]; exact hl),hj]
theorem begins_any (s t:ByteArray) (w:World) (g:Laid w):Calls Tryz.prog 5 #[.string s,.string t] w fun e w'=>e=.returned (.bool true)∧Ext w w':=by
 have HK:=Lib.hid fun w1 (X:Ext w w1)=>known_any w1 (g.ext X)
 by_cases hs:6000 < s.size
 ·have hsI:(6000:Int) < (s.size:Int):=by omega
  clear g
  go_enter Tryz.func5,Tryz.ntmps5
  go_wp2_with (first
   | (go_at_call 10; refine (HK.out _ (Ext.refl _)).mono ?_; rintro r w1 ⟨rfl,x1⟩))
  go_ret
  exact ⟨rfl,x1⟩
 have hsI:¬ (6000:Int) < (s.size:Int):=by omega
 by_cases ht:6000 < t.size
 ·have htI:(6000:Int) < (t.size:Int):=by omega
  clear g
  go_enter Tryz.func5,Tryz.ntmps5
  go_wp2_with (first
   | (go_at_call 10; refine (HK.out _ (Ext.refl _)).mono ?_; rintro r w1 ⟨rfl,x1⟩))
  go_ret
  exact ⟨rfl,x1⟩
 have htI:¬ (6000:Int) < (t.size:Int):=by omega
 have HP:=Lib.hid fun w1 (X:Ext w w1)=>prs_all s w1 (g.ext X)
 have HL:=Lib.hid fun w1=>lex_any s w1
 have HM:=Lib.hid fun w1=>lex_any t w1
 have HB:=fun s6 M n=>begins_plain (src:=s) (s:=s6) (M:=M) (n:=n)
 have HLS:=lexS_small (s:=s)
 have HMS:=lexS_small (s:=t)
 have HLW:=lexS_wf (s:=s)
 have HMW:=lexS_wf (s:=t)
 have HLT:=lexS_tk (s:=s)
 have HMT:=lexS_tk (s:=t)
 obtain ⟨x,n,e,hpe⟩:∃ x n e,parsS s=(x,n,e):=⟨_,_,_,rfl⟩
 obtain ⟨L,m,f,hle⟩:∃ L m f,lexS s=(L,m,f):=⟨_,_,_,rfl⟩
 obtain ⟨M,m2,f2,hme⟩:∃ M m f,lexS t=(M,m,f):=⟨_,_,_,rfl⟩
 rw [hpe] at HP HB
 rw [hle] at HP HL HLS HLW HLT HB
 rw [hme] at HM HMS HMW HMT
 simp only at HP HL HM HLS HMS HLW HMW HLT HMT HB
 clear hpe hle hme hs ht
 by_cases hf:f=0
 rotate_left
 ·have k0:(f == 0)=false:=beq_eq_false_iff_ne.2 hf
  clear g HB HLS HMS HLW HMW HLT HMT
  go_enter Tryz.func5,Tryz.ntmps5
  go_wp2_with (first
   | (go_at_call 15; (with_reducible show Calls _ _ #[.string s] _ _); refine (HL.out _).mono ?_; rintro r w1 ⟨v1,rfl,ho1,x1⟩; obtain ⟨A1,c1,rfl,_⟩:=own_tok ho1; clear ho1)
   | (go_at_call 15; (with_reducible show Calls _ _ #[.string t] _ _); refine (HM.out _).mono ?_; rintro r w2 ⟨v2,rfl,ho2,x2⟩; obtain ⟨A2,c2,rfl,_⟩:=own_tok ho2; clear ho2)
   | (go_at_call 11; refine (HP.out _ (x1.trans x2)).mono ?_; rintro r w3 ⟨v3,rfl,_,x3,_⟩)
   | (go_at_call 10; refine (HK.out _ ((x1.trans x2).trans x3)).mono ?_; rintro r w4 ⟨rfl,x4⟩))
  go_ret
  exact ⟨rfl,((x1.trans x2).trans x3).trans x4⟩
 by_cases hf2:f2=0
 rotate_left
 ·have k0:(f2 == 0)=false:=beq_eq_false_iff_ne.2 hf2
  subst hf
  clear g HB HLS HMS HLW HMW HLT HMT
  go_enter Tryz.func5,Tryz.ntmps5
  go_wp2_with (first
   | (go_at_call 15; (with_reducible show Calls _ _ #[.string s] _ _); refine (HL.out _).mono ?_; rintro r w1 ⟨v1,rfl,ho1,x1⟩; obtain ⟨A1,c1,rfl,_⟩:=own_tok ho1; clear ho1)
   | (go_at_call 15; (with_reducible show Calls _ _ #[.string t] _ _); refine (HM.out _).mono ?_; rintro r w2 ⟨v2,rfl,ho2,x2⟩; obtain ⟨A2,c2,rfl,_⟩:=own_tok ho2; clear ho2)
   | (go_at_call 11; refine (HP.out _ (x1.trans x2)).mono ?_; rintro r w3 ⟨v3,rfl,_,x3,_⟩)
   | (go_at_call 10; refine (HK.out _ ((x1.trans x2).trans x3)).mono ?_; rintro r w4 ⟨rfl,x4⟩))
  go_ret
  exact ⟨rfl,((x1.trans x2).trans x3).trans x4⟩
 by_cases he:e=2
 rotate_left
 ·have k0:(e == 2)=false:=beq_eq_false_iff_ne.2 he
  subst hf hf2
  clear g HB HLS HMS HLW HMW HLT HMT
  go_enter Tryz.func5,Tryz.ntmps5
  go_wp2_with (first
   | (go_at_call 15; (with_reducible show Calls _ _ #[.string s] _ _); refine (HL.out _).mono ?_; rintro r w1 ⟨v1,rfl,ho1,x1⟩; obtain ⟨A1,c1,rfl,_⟩:=own_tok ho1; clear ho1)
   | (go_at_call 15; (with_reducible show Calls _ _ #[.string t] _ _); refine (HM.out _).mono ?_; rintro r w2 ⟨v2,rfl,ho2,x2⟩; obtain ⟨A2,c2,rfl,_⟩:=own_tok ho2; clear ho2)
   | (go_at_call 11; refine (HP.out _ (x1.trans x2)).mono ?_; rintro r w3 ⟨v3,rfl,_,x3,_⟩)
   | (go_at_call 10; refine (HK.out _ ((x1.trans x2).trans x3)).mono ?_; rintro r w4 ⟨rfl,x4⟩))
  go_ret
  exact ⟨rfl,((x1.trans x2).trans x3).trans x4⟩
 subst hf hf2 he
 obtain ⟨_,hLl⟩:=HLS rfl
 obtain ⟨_,hMl⟩:=HMS rfl
 by_cases hn:¬ (n < L.length)
 ·have hnI:(L.length:Int) ≤ (n:Int):=by omega
  clear g HB HLS HMS HLW HMW HLT HMT
  go_enter Tryz.func5,Tryz.ntmps5
  go_wp2_with (first
   | (go_at_call 15; (with_reducible show Calls _ _ #[.string s] _ _); refine (HL.out _).mono ?_; rintro r w1 ⟨v1,rfl,ho1,x1⟩; obtain ⟨A1,c1,rfl,_⟩:=own_tok ho1; clear ho1)
   | (go_at_call 15; (with_reducible show Calls _ _ #[.string t] _ _); refine (HM.out _).mono ?_; rintro r w2 ⟨v2,rfl,ho2,x2⟩; obtain ⟨A2,c2,rfl,_⟩:=own_tok ho2; clear ho2)
   | (go_at_call 11; refine (HP.out _ (x1.trans x2)).mono ?_; rintro r w3 ⟨v3,rfl,_,x3,_⟩)
   | (go_at_call 10; refine (HK.out _ ((x1.trans x2).trans x3)).mono ?_; rintro r w4 ⟨rfl,x4⟩))
  go_ret
  exact ⟨rfl,((x1.trans x2).trans x3).trans x4⟩
 have hnl:n < L.length:=by omega
 have hnI:(n:Int) < (L.length:Int):=by omega
 have hwnm:wrap64 ((n:Int) + (M.length:Int))=(n:Int) + (M.length:Int):=IntWalk.wrap64_in _ (by omega)
 by_cases hnm:¬ (n + M.length ≤ 900)
 ·have hnmI:(900:Int) < (n:Int) + (M.length:Int):=by omega
  clear g HB HLS HMS HLW HMW HLT HMT
  go_enter Tryz.func5,Tryz.ntmps5
  go_wp2_with (first
   | (go_at_call 15; (with_reducible show Calls _ _ #[.string s] _ _); refine (HL.out _).mono ?_; rintro r w1 ⟨v1,rfl,ho1,x1⟩; obtain ⟨A1,c1,rfl,_⟩:=own_tok ho1; clear ho1)
   | (go_at_call 15; (with_reducible show Calls _ _ #[.string t] _ _); refine (HM.out _).mono ?_; rintro r w2 ⟨v2,rfl,ho2,x2⟩; obtain ⟨A2,c2,rfl,_⟩:=own_tok ho2; clear ho2)
   | (go_at_call 11; refine (HP.out _ (x1.trans x2)).mono ?_; rintro r w3 ⟨v3,rfl,_,x3,_⟩)
   | (go_at_call 10; refine (HK.out _ ((x1.trans x2).trans x3)).mono ?_; rintro r w4 ⟨rfl,x4⟩))
  go_ret
  exact ⟨rfl,((x1.trans x2).trans x3).trans x4⟩
 have hnmI:(n:Int) + (M.length:Int) ≤ 900:=by omega
 obtain ⟨s6,hs6⟩:∃ s6:ByteArray,(⟨(joinS (L.take (n + 1) ++ M)).toArray⟩:ByteArray)=s6:=⟨_,rfl⟩
 have hj6:s6.data.toList=joinS (L.take (n + 1) ++ M):=by rw [← hs6]
 have hKT:∀ y ∈ L.take (n + 1) ++ M,TK y:=fun y hy=>by
  rcases List.mem_append.1 hy with hy | hy
  ·exact HLT rfl y (List.mem_of_mem_take hy)
  ·exact HMT rfl y hy
 have hKW:∀ y ∈ L.take (n + 1) ++ M,y.text.size ≤ 4000:=fun y hy=>by
  rcases List.mem_append.1 hy with hy | hy
  ·exact HLW rfl y (List.mem_of_mem_take hy)
  ·exact HMW rfl y hy
 have hKl:(L.take (n + 1) ++ M).length=n + 1 + M.length:=by rw [List.length_append,List.length_take]; omega
 have hKf:Hid ((L.take (n + 1) ++ M).flatMap Tok.cells=(L.take (n + 1)).flatMap Tok.cells ++ M.flatMap Tok.cells):=by unfold Hid; rw [List.flatMap_append]
 have HB6:s6.size ≤ 4000 → (parsS s6).2=(n,2):=fun h=>HB s6 M n rfl rfl rfl hnl (HMT rfl) h hj6 (by omega)
 obtain ⟨K,hK⟩:∃ K,L.take (n + 1) ++ M=K:=⟨_,rfl⟩
 rw [hK] at hKT hKW hKl hKf hs6
 have HJ:Hid (∀ w1 A cap,TokAt w1 A K → Calls Tryz.prog 16 #[.slice A K.length cap] w1 fun e w'=>e=.returned (.tuple #[.string s6,.int .i64 0])∧Ext w1 w'):=fun w1 A cap hA=>by
  rw [← hs6]
  exact join_any _ hKT hKW (by omega) (by omega) w1 A cap hA
 have HKL:=Lib.hid hKl
 have HP6:=Lib.hid fun w1 (X:Ext w w1)=>prs_all s6 w1 (g.ext X)
 have hn9:(n:Int) ≤ 900:=by omega
 have hnG:¬ (L.length:Int) ≤ (n:Int):=by omega
 have hnmG:¬ (900:Int) < (n:Int) + (M.length:Int):=by omega
 have hn0:wrap64 (n:Int)=(n:Int):=IntWalk.wrap64_in _ (by omega)
 have hn9':¬ (900:Int) < (n:Int):=by omega
 have hws:wrap64 ((n:Int) + 1)=(n:Int) + 1:=IntWalk.wrap64_in _ (by omega)
 have h1l:((L.take (n + 1)).flatMap Tok.cells).length=(n + 1) * 3:=by rw [flat_len,List.length_take,Nat.min_eq_left (by omega)]
 have H1L:=Lib.hid h1l
 obtain ⟨i0,hi0,hz0,hz1,hz2⟩:=info_parts Tryz.infoTok
 have HI:=Lib.hid (And.intro hi0 (And.intro hz0 (And.intro hz1 hz2)))
 clear HB HLS HMS HLW HMW HLT HMT hKT hKW hs6 hj6 hKl h1l hi0 hz0 hz1 hz2 g hK
 by_cases hbig:4000 < s6.size
 ·have hbI:(4000:Int) < (s6.size:Int):=by omega
  clear HB6 HP6
  go_enter Tryz.func5,Tryz.ntmps5
  go_wp2_with (first
   | (go_at_call 15; (with_reducible show Calls _ _ #[.string s] _ _); refine (HL.out _).mono ?_; rintro r w1 ⟨v1,rfl,ho1,x1⟩; obtain ⟨g1,c1,rfl,hc1,hg1,hcell1⟩:=(own_some ho1).resolve_left (fun h=>by omega); have hcI:(n:Int) + 1 ≤ (c1:Int):=(by omega); have HC1:=Lib.hid hcell1; clear ho1 hcell1)
   | (go_at_call 15; (with_reducible show Calls _ _ #[.string t] _ _); refine (HM.out _).mono ?_; rintro r w2 ⟨v2,rfl,ho2,x2⟩; rcases own_some ho2 with ⟨rfl,hM0⟩ | ⟨g2,c2,rfl,hc2,hg2,hcell2⟩)
   | (go_at_call 11; (with_reducible show Calls _ _ #[.string s] _ _); refine (HP.out _ (x1.trans x2)).mono ?_; rintro r w3 ⟨v3,rfl,_,x3,_⟩)
   | ((with_reducible show wpList _ _ _ (Oper.mk (some 76) (.call _) _ _ _ _ :: _) _ _)
      have N1:∀ j u,((L.take (n + 1)).flatMap Tok.cells)[j]?=some u → (w3.alloc (.cells #[] 84)).cell? ((⟨g1,0,none⟩:Addr).add j)=some u:=fun j u hj=>by
       rw [Addr.add_mid,Nat.zero_add]
       refine Lib.cell?_alloc_some _ ?_
       rw [flat_take,List.getElem?_take] at hj
       split at hj
       ·exact ((x2.trans x3).cell (p:=⟨g1,j,none⟩) hg1).trans (HC1.out j u hj)
       ·cases hj
      refine wpList_append_own _ rfl _ _ 45 rfl w3.heap.size 84 i0 _ 3 32 Tryz.underlying45 HI.out.1 HI.out.2.1 HI.out.2.2.1 HI.out.2.2.2 rfl (by decide) (.slice (some ⟨w3.heap.size,0,none⟩) 0 0) 0 [] rfl (World.ownsRow_made w3 #[] 0 (Nat.le_refl _) (Nat.zero_le _) rfl) ⟨g1,0,none⟩ (n + 1) c1 ((L.take (n + 1)).flatMap Tok.cells) rfl H1L.out N1 (flat_one _) (by unfold maxLen; omega) (by omega) (by simp) ?_
      intro va wa oa gra _
      rw [Nat.zero_add,List.nil_append] at oa
      have xa:Ext w3 wa:=((Ext.refl w3).alloc _).grown gra (fun k hk=>by simp [Value.ownBlock] at hk; omega)
      clear gra N1)
   | ((with_reducible show wpList _ _ _ (Oper.mk (some 78) (.call _) _ _ _ _ :: _) _ _)
      refine wpList_append_own_none rfl _ _ 45 rfl w3.heap.size 84 i0 3 Tryz.underlying45 HI.out.1 va (n + 1) _ rfl oa rfl ?_
      obtain rfl:M=[]:=List.eq_nil_of_length_eq_zero hM0
      have o6:wa.ownsRow w3.heap.size 84 3 va K.length (K.flatMap Tok.cells):=by rw [HKL.out,hKf.out]; simpa using oa
      obtain ⟨A6,c6,rfl,htok⟩:=own_tok o6
      obtain ⟨w4,rfl⟩:∃ w4,w4=wa:=⟨wa,rfl⟩
      have x4:=xa
      clear o6 oa)
   | ((with_reducible show wpList _ _ _ (Oper.mk (some 78) (.call _) _ _ _ _ :: _) _ _)
      have N2:∀ j u,(M.flatMap Tok.cells)[j]?=some u → wa.cell? ((⟨g2,0,none⟩:Addr).add j)=some u:=fun j u hj=>by
       rw [Addr.add_mid,Nat.zero_add]
       exact ((x3.trans xa).cell (p:=⟨g2,j,none⟩) hg2).trans (hcell2 j u hj)
      refine wpList_append_own _ rfl _ _ 45 rfl w3.heap.size 84 i0 _ 3 32 Tryz.underlying45 HI.out.1 HI.out.2.1 HI.out.2.2.1 HI.out.2.2.2 rfl (by decide) va (n + 1) _ rfl oa ⟨g2,0,none⟩ M.length c2 (M.flatMap Tok.cells) rfl (flat_len M) N2 (flat_one _) (by unfold maxLen; omega) (by omega) xa.size ?_
      intro vb w4 ob grb _
      have x4:Ext w3 w4:=xa.grown grb (fun k hk=>(World.ownsRow.lt oa k hk).1)
      have o6:w4.ownsRow w3.heap.size 84 3 vb K.length (K.flatMap Tok.cells):=by rw [HKL.out,hKf.out]; exact ob
      obtain ⟨A6,c6,rfl,htok⟩:=own_tok o6
      clear o6 ob oa grb N2)
   | (go_at_call 16; refine (HJ.out w4 A6 c6 htok).mono ?_; rintro r w7 ⟨rfl,x7⟩)
   | (go_at_call 10; refine (HK.out _ ((((x1.trans x2).trans x3).trans x4).trans x7)).mono ?_; rintro r w9 ⟨rfl,x9⟩))
  all_goals first
   | (exfalso; omega)
   | (go_ret; exact ⟨rfl,((((x1.trans x2).trans x3).trans x4).trans x7).trans x9⟩)
 ·have hbI:¬ (4000:Int) < (s6.size:Int):=by omega
  obtain ⟨x6,hp6⟩:∃ x6,parsS s6=(x6,n,2):=⟨(parsS s6).1,Prod.ext rfl (HB6 (by omega))⟩
  rw [hp6] at HP6
  simp only at HP6
  clear HB6 hp6
  go_enter Tryz.func5,Tryz.ntmps5
  go_wp2_with (first
   | (go_at_call 15; (with_reducible show Calls _ _ #[.string s] _ _); refine (HL.out _).mono ?_; rintro r w1 ⟨v1,rfl,ho1,x1⟩; obtain ⟨g1,c1,rfl,hc1,hg1,hcell1⟩:=(own_some ho1).resolve_left (fun h=>by omega); have hcI:(n:Int) + 1 ≤ (c1:Int):=(by omega); have HC1:=Lib.hid hcell1; clear ho1 hcell1)
   | (go_at_call 15; (with_reducible show Calls _ _ #[.string t] _ _); refine (HM.out _).mono ?_; rintro r w2 ⟨v2,rfl,ho2,x2⟩; rcases own_some ho2 with ⟨rfl,hM0⟩ | ⟨g2,c2,rfl,hc2,hg2,hcell2⟩)
   | (go_at_call 11; (with_reducible show Calls _ _ #[.string s] _ _); refine (HP.out _ (x1.trans x2)).mono ?_; rintro r w3 ⟨v3,rfl,_,x3,_⟩)
   | ((with_reducible show wpList _ _ _ (Oper.mk (some 76) (.call _) _ _ _ _ :: _) _ _)
      have N1:∀ j u,((L.take (n + 1)).flatMap Tok.cells)[j]?=some u → (w3.alloc (.cells #[] 84)).cell? ((⟨g1,0,none⟩:Addr).add j)=some u:=fun j u hj=>by
       rw [Addr.add_mid,Nat.zero_add]
       refine Lib.cell?_alloc_some _ ?_
       rw [flat_take,List.getElem?_take] at hj
       split at hj
       ·exact ((x2.trans x3).cell (p:=⟨g1,j,none⟩) hg1).trans (HC1.out j u hj)
       ·cases hj
      refine wpList_append_own _ rfl _ _ 45 rfl w3.heap.size 84 i0 _ 3 32 Tryz.underlying45 HI.out.1 HI.out.2.1 HI.out.2.2.1 HI.out.2.2.2 rfl (by decide) (.slice (some ⟨w3.heap.size,0,none⟩) 0 0) 0 [] rfl (World.ownsRow_made w3 #[] 0 (Nat.le_refl _) (Nat.zero_le _) rfl) ⟨g1,0,none⟩ (n + 1) c1 ((L.take (n + 1)).flatMap Tok.cells) rfl H1L.out N1 (flat_one _) (by unfold maxLen; omega) (by omega) (by simp) ?_
      intro va wa oa gra _
      rw [Nat.zero_add,List.nil_append] at oa
      have xa:Ext w3 wa:=((Ext.refl w3).alloc _).grown gra (fun k hk=>by simp [Value.ownBlock] at hk; omega)
      clear gra N1)
   | ((with_reducible show wpList _ _ _ (Oper.mk (some 78) (.call _) _ _ _ _ :: _) _ _)
      refine wpList_append_own_none rfl _ _ 45 rfl w3.heap.size 84 i0 3 Tryz.underlying45 HI.out.1 va (n + 1) _ rfl oa rfl ?_
      obtain rfl:M=[]:=List.eq_nil_of_length_eq_zero hM0
      have o6:wa.ownsRow w3.heap.size 84 3 va K.length (K.flatMap Tok.cells):=by rw [HKL.out,hKf.out]; simpa using oa
      obtain ⟨A6,c6,rfl,htok⟩:=own_tok o6
      obtain ⟨w4,rfl⟩:∃ w4,w4=wa:=⟨wa,rfl⟩
      have x4:=xa
      clear o6 oa)
   | ((with_reducible show wpList _ _ _ (Oper.mk (some 78) (.call _) _ _ _ _ :: _) _ _)
      have N2:∀ j u,(M.flatMap Tok.cells)[j]?=some u → wa.cell? ((⟨g2,0,none⟩:Addr).add j)=some u:=fun j u hj=>by
       rw [Addr.add_mid,Nat.zero_add]
       exact ((x3.trans xa).cell (p:=⟨g2,j,none⟩) hg2).trans (hcell2 j u hj)
      refine wpList_append_own _ rfl _ _ 45 rfl w3.heap.size 84 i0 _ 3 32 Tryz.underlying45 HI.out.1 HI.out.2.1 HI.out.2.2.1 HI.out.2.2.2 rfl (by decide) va (n + 1) _ rfl oa ⟨g2,0,none⟩ M.length c2 (M.flatMap Tok.cells) rfl (flat_len M) N2 (flat_one _) (by unfold maxLen; omega) (by omega) xa.size ?_
      intro vb w4 ob grb _
      have x4:Ext w3 w4:=xa.grown grb (fun k hk=>(World.ownsRow.lt oa k hk).1)
      have o6:w4.ownsRow w3.heap.size 84 3 vb K.length (K.flatMap Tok.cells):=by rw [HKL.out,hKf.out]; exact ob
      obtain ⟨A6,c6,rfl,htok⟩:=own_tok o6
      clear o6 ob oa grb N2)
   | (go_at_call 16; refine (HJ.out w4 A6 c6 htok).mono ?_; rintro r w7 ⟨rfl,x7⟩)
   | (go_at_call 11; (with_reducible show Calls _ _ #[.string s6] _ _); refine (HP6.out _ ((((x1.trans x2).trans x3).trans x4).trans x7)).mono ?_; rintro r w8 ⟨v8,rfl,_,x8,_⟩)
   | (go_at_call 10; refine (HK.out _ (((((x1.trans x2).trans x3).trans x4).trans x7).trans x8)).mono ?_; rintro r w9 ⟨rfl,x9⟩))
  all_goals first
   | (exfalso; omega)
   | (go_ret; exact ⟨rfl,(((((x1.trans x2).trans x3).trans x4).trans x7).trans x8).trans x9⟩)
end Go.Proofs.YtmmnhbhnjiajhaaGreatDoor.c
