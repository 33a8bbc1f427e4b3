/- All that is read recursively, at every place. Tokens in memory; what is known of the tokens of a source. No condition. -/
import Derived.Test.YtmmnhbhnjiajhaaGreatDoorSUp
import Derived.Test.YtmmnhbhnjiajhaaGreatDoorSTm
import Derived.Test.YtmmnhbhnjiajhaaGreatDoorSVg
import Derived.Laws.OwnMore
namespace Go.Proofs.YtmmnhbhnjiajhaaGreatDoor.c
open Go.RowKit
set_option linter.unusedVariables false
set_option linter.unusedSimpArgs false
theorem wf_comma (C:Cx) (b:Nat) (h:kd_ C.L b=1):tx C.L b ≠ ⟨#[44]⟩:=fun e=>by
 obtain ⟨_,c,r,hc,hd⟩:=lit_text h
 rw [e] at hc
 have hc:([44]:List UInt8)=c :: r:=hc
 obtain ⟨rfl,_⟩:=List.cons.inj hc
 exact absurd hd (by decide)
theorem lvl_comma (C:Cx) (a:Nat) (c:Nat) (x:Nd) (h:gram C.L (.lvl 0) a=some (.ok x c)):a < c∧tx C.L (c - 1) ≠ ⟨#[44]⟩:=by
 obtain ⟨h1,h2,h3⟩:=gram_comma (wf_comma C) (.lvl 0) a x c h
 have:=h2 rfl
 exact ⟨this,h3.resolve_left (by omega)⟩
def UN (C:Cx) (a:Nat):Prop:=∀ w,PS C a w → Calls Tryz.prog 215 #[Pp C] w (Out C w 0 (gram C.L .un a))
def BN (C:Cx) (k a:Nat):Prop:=∀ w A cap n,n=7 - k → PS C a w → LvAt w A k → n ≤ cap → Calls Tryz.prog 171 #[Pp C,.slice A n cap] w (Out C w 0 (gram C.L (.lvl k) a))
structure All (C:Cx) (a:Nat):Prop where
 ex:EX C a
 bl:BL C a
 sm:SM C a
 un:UN C a
 bn:∀ k,k ≤ 7 → BN C k a
theorem prim_any {C:Cx} {a:Nat} {w:World} (h:PS C a w) (HE:∀ b,a < b → EX C b) (HB:∀ b,a < b → BL C b):Calls Tryz.prog 241 #[Pp C] w (Out C w 0 (gram C.L .prim a)):=by
 by_cases hk:kd_ C.L a=1
 ·exact prm_num h HE HB hk
 by_cases hk3:kd_ C.L a=3
 ·exact prm_at h HE HB hk3
 by_cases h0:tx C.L a=⟨#[116,114,117,101]⟩
 ·exact prm_true h HE HB hk h0
 by_cases h1:tx C.L a=⟨#[102,97,108,115,101]⟩
 ·exact prm_false h HE HB hk h1
 by_cases h2:tx C.L a=⟨#[40]⟩
 ·exact prm_par h HE HB hk h2
 by_cases h3:tx C.L a=⟨#[100,111]⟩
 ·exact prm_do h HE HB hk h3
 exact prm_name h HE HB hk hk3 h0 h1 h2 h3 fun b c x _ hg=>lvl_comma C b c x hg
theorem all_step {C:Cx} {a:Nat} (ih:∀ b,a < b → All C b):All C a:=by
 have hE:∀ b,a < b → EX C b:=fun b hb=>(ih b hb).ex
 have hB:∀ b,a < b → BL C b:=fun b hb=>(ih b hb).bl
 have hun:UN C a:=fun w h=>unary_any h (fun w1 h1=>(ih (a + 1) (by omega)).un w1 h1) (fun w1 h1=>prim_any h1 hE hB)
 have hbn:∀ d k,k + d=7 → BN C k a:=by
  intro d
  induction d with
  | zero=>intro k hk w A cap n hn h hL hc; exact binary_any h (by omega) hL (by omega) hn (fun _=>hun) (fun b w1 A1 c1 n1 _ h7=>absurd h7 (by omega))
  | succ d ihd =>
   intro k hk w A cap n hn h hL hc
   refine binary_any h (by omega) hL (by omega) hn (fun h7=>absurd h7 (by omega)) (fun b w1 A1 c1 n1 h1 h7 hab hp hl hc1=>?_)
   rcases Nat.lt_or_ge a b with hlt | hge
   ·exact (ih b hlt).bn (k + 1) (by omega) w1 A1 c1 n1 h1 hp hl hc1
   ·obtain rfl:a=b:=by omega
    exact ihd (k + 1) (by omega) w1 A1 c1 n1 h1 hp hl hc1
 have hbn:∀ k,k ≤ 7 → BN C k a:=fun k hk=>hbn (7 - k) k (by omega)
 have hbl:BL C a:=fun w h=>block_any h fun b hb=>(ih b hb).sm
 refine ⟨fun w h=>expr_any h fun w1 A1 h1 hl=>hbn 0 (by omega) w1 A1 7 7 rfl h1 hl (Nat.le_refl _),hbl,stmt_any hE fun b hb=>?_,hun,hbn⟩
 rcases Nat.lt_or_ge a b with hlt | hge
 ·exact hB b hlt
 ·obtain rfl:a=b:=by omega
  exact hbl
theorem all_at (C:Cx):∀ n a,C.L.length + 1 ≤ a + n → All C a
 | 0,a,h=>⟨fun w p=>absurd p.le (by omega),fun w p=>absurd p.le (by omega),fun w p=>absurd p.le (by omega),fun w p=>absurd p.le (by omega),fun k _ w A cap n _ p=>absurd p.le (by omega)⟩
 | n + 1,a,h=>all_step fun b hb=>all_at C n b (by omega)
theorem all_any (C:Cx) (a:Nat):All C a:=all_at C (C.L.length + 1) a (by omega)
theorem sgL_at (r:List UInt8):∀ k,sgL (64 :: r) k=(0,0)
 | 0=>rfl
 | k + 1=>by
  have hall:∀ q ∈ sgB,q.head? ≠ some 64:=by decide
  have hz:sgnB ((64 :: r).take (k + 1))=false:=by
   rw [List.take_succ_cons]
   unfold sgnB
   rw [List.any_eq_false]
   intro q hq e
   have:=hall q hq
   rw [← beq_iff_eq.1 e] at this
   exact this rfl
  unfold sgL
  rw [if_neg (by rw [hz]; decide),sgL_at r k]
theorem sgL_kind (l:List UInt8):∀ k,(sgL l k).2 ≠ 0 → (sgL l k).1=2
 | 0=>fun h=>absurd rfl h
 | k + 1=>fun h=>by
  unfold sgL at h ⊢
  split
  ·rfl
  ·rename_i hc
   rw [if_neg hc] at h
   exact sgL_kind l k h
theorem fs2_kind {c:UInt8} {r:List UInt8}:(fs2 (c :: r)).2 ≠ 0 → ((fs2 (c :: r)).1=1 → isDig c.toNat=true)∧((fs2 (c :: r)).1=3 ↔ c=64):=by
 have h64:(64:UInt8).toNat=64:=rfl
 by_cases k1:isLet c.toNat=true
 ·rw [fs2_let k1]
  intro hm
  refine ⟨fun h=>absurd (show (0:Int)=1 from h) (by decide),fun h=>absurd (show (0:Int)=3 from h) (by decide),fun h=>?_⟩
  subst h
  exact absurd k1 (by decide)
 by_cases k2:isDig c.toNat=true
 ·rw [fs2_dig k1 k2]
  intro hm
  refine ⟨fun _=>k2,fun h=>absurd (show (1:Int)=3 from h) (by decide),fun h=>?_⟩
  subst h
  exact absurd k2 (by decide)
 by_cases k3:c.toNat=64∧(match r with | []=>false | d :: _=>isLet d.toNat)=true
 ·cases r with
  | nil=>exact absurd k3.2 (by simp)
  | cons d r =>
   rw [fs2_at k1 k2 k3.1 k3.2]
   intro hm
   exact ⟨fun h=>absurd (show (3:Int)=1 from h) (by decide),fun _=>UInt8.toNat_inj.1 (by rw [k3.1]; rfl),fun _=>rfl⟩
 ·rw [fs2_sg k1 k2 k3]
  intro hm
  have h2:=sgL_kind _ _ hm
  rw [h2]
  refine ⟨fun h=>absurd h (by decide),fun h=>absurd h (by decide),fun h=>?_⟩
  subst h
  exact (hm (congrArg Prod.snd (sgL_at r _))).elim
def TokWf (t:Tok):Prop:=0 < t.text.size∧t.text.size ≤ 4000∧(t.kind=1 → (t.text.data.toList.head?.map isDg)=some true)∧(t.kind=3 ↔ t.text.data.toList.head?=some 64)
theorem yl_wf (s:ByteArray) (hs:s.size ≤ 4000):∀ n a,s.size - a ≤ n → ∀ t ∈ yl s a,hasT t=true → TokWf t:=by
 intro n
 induction n with
 | zero =>
  intro a hn t ht _
  rw [yl_end (by omega)] at ht
  cases ht
 | succ n ih =>
  intro a hn t ht hh
  by_cases h:a < s.size
  ·cases hb:blank (s[a]'h).toNat
   case true =>
    rw [yl_blank h hb] at ht
    exact ih (a + 1) (by omega) t ht hh
   case false =>
    by_cases h0:(fs2 (s.data.toList.drop a)).2=0
    ·rw [yl_no h hb h0,List.mem_singleton] at ht
     subst ht
     exact Bool.noConfusion (show false=true from hh)
    ·have hle:=fs2_len (s.data.toList.drop a)
     rw [List.length_drop,← Lib.size_eq] at hle
     rw [yl_yes h hb h0] at ht
     rcases List.mem_cons.1 ht with rfl | ht
     ·have hlt:a < s.data.toList.length:=by rw [← Lib.size_eq]; exact h
      have hd:s.data.toList.drop a=s.data.toList[a] :: s.data.toList.drop (a + 1):=List.drop_eq_getElem_cons hlt
      generalize s.data.toList[a]=c at hd
      rw [hd] at h0 hle ⊢
      obtain ⟨q1,q2⟩:=fs2_kind h0
      have hdat:(s.extract a (a + (fs2 (c :: s.data.toList.drop (a + 1))).2)).data.toList.head?=some c:=by
       rw [Lib.extract_data,hd,Nat.add_sub_cancel_left]
       cases hm:(fs2 (c :: s.data.toList.drop (a + 1))).2 with
       | zero=>exact absurd hm h0
       | succ m=>rfl
      refine ⟨by simp only [ByteArray.size_extract]; omega,by simp only [ByteArray.size_extract]; omega,fun hk=>?_,?_⟩
      ·simp only [hdat]
       exact congrArg some (q1 hk)
      ·simp only [hdat,Option.some.injEq]
       exact q2
     ·exact ih _ (by omega) t ht hh
  ·rw [yl_end h] at ht
   cases ht
theorem lexS_ok {s:ByteArray} {L:List Tok} {n:Nat} (h:lexS s=(L,n,0)):L.length ≤ 1000∧n=L.length∧∀ t,t ∈ L → TokWf t:=by
 unfold lexS at h
 split at h
 ·cases h
 ·rename_i h4
  have HTY:=toks_yl s s.size 0 [] (by omega) (by omega)
  split at h
  ·rename_i ht
   split at h
   ·cases h
   ·rename_i hn
    have e1:=(Prod.mk.inj h).1
    have e2:=(Prod.mk.inj (Prod.mk.inj h).2).1
    subst e1
    refine ⟨by omega,e2.symm,?_⟩
    have hall:∀ x ∈ yl s 0,hasT x=true:=by
     intro x hx
     cases hq:hasT x
     ·obtain ⟨pre,he⟩:=HTY.2.2.1 x hx hq
      rw [HTY.2.1 pre x he hq] at ht
      cases ht
     ·rfl
    rw [HTY.1 hall]
    exact fun t htm=>yl_wf s (by omega) s.size 0 (by omega) t htm (hall t htm)
  ·cases (Prod.mk.inj (Prod.mk.inj h).2).2
theorem flat3:∀ (L:List Tok) (i j:Nat),i < L.length → j < 3 → (L.flatMap Tok.cells)[i * 3 + j]?=some (tokC (L.getD i default) j)
 | [],i,j,h,_=>absurd h (by simp)
 | x :: L,0,j,_,hj=>by
  match j,hj with
  | 0,_=>rfl
  | 1,_=>rfl
  | 2,_=>rfl
 | x :: L,i + 1,j,h,hj=>by
  have ih:=flat3 L i j (by simpa using h) hj
  rw [List.flatMap_cons,List.getElem?_append_right (by simp [Tok.cells]; omega)]
  rw [show (i + 1) * 3 + j - x.cells.length=i * 3 + j by simp [Tok.cells]; omega,ih]
  rfl
theorem own_tok {w:World} {base:Nat} {v:Value} {L:List Tok} (h:w.ownsRow base 84 3 v L.length (L.flatMap Tok.cells)):∃ A cap,v=.slice A L.length cap∧TokAt w A L:=by
 rcases h.2 with ⟨rfl,e⟩ | ⟨g,cap,cur,rfl,hb,hg,_⟩
 ·exact ⟨none,0,by rw [e],fun hp=>by omega⟩
 ·refine ⟨_,cap,rfl,fun hp=>⟨g,0,rfl,(Array.getElem?_eq_some_iff.1 hg).1,fun i j hi hj=>?_⟩⟩
  rw [Nat.zero_add,h.cellAt (i * 3 + j) (by omega)]
  exact flat3 L i j hi hj
end Go.Proofs.YtmmnhbhnjiajhaaGreatDoor.c
