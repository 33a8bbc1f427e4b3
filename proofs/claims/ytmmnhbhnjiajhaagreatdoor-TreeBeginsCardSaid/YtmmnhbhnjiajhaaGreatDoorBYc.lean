/- The tokens of texts with blanks between them. A source that is refused at a token is refused there with any tokens behind it. No condition. -/
import Derived.Test.YtmmnhbhnjiajhaaGreatDoorBVm
import Derived.Test.YtmmnhbhnjiajhaaGreatDoorBYa
namespace Go.Proofs.YtmmnhbhnjiajhaaGreatDoor.c
open Go.RowKit
set_option linter.unusedVariables false
set_option linter.unusedSimpArgs false
def Bh (m:List UInt8):Prop:=m=[] ∨ ∃ r,m=32 :: r
theorem tw_app {m:List UInt8} (hm:Bh m):∀ l:List UInt8,(∀ c ∈ l,okB c=true) → (l ++ m).takeWhile okB=l
 | [],_=>by
  rcases hm with rfl | ⟨r,rfl⟩
  ·rfl
  ·rfl
 | c :: l,h=>by
  rw [List.cons_append,List.takeWhile_cons,if_pos (h c (List.mem_cons_self ..)),tw_app hm l fun d hd=>h d (List.mem_cons_of_mem _ hd)]
theorem tw_ok (l:List UInt8):∀ c ∈ l.takeWhile okB,okB c=true:=fun c hc=>by
 have:=List.all_takeWhile (l:=l) (p:=okB)
 exact List.all_eq_true.1 this c hc
theorem tw_take (l:List UInt8):l.take (l.takeWhile okB).length=l.takeWhile okB:=by
 have h:l.takeWhile okB <+: l:=List.takeWhile_prefix _
 exact (List.prefix_iff_eq_take.1 h).symm
theorem okB_of {c:UInt8} (h:isLet c.toNat=true ∨ isDig c.toNat=true):okB c=true:=by
 unfold okB
 rcases h with h | h <;> simp [h]
theorem tw_cons {c:UInt8} (r:List UInt8) (h:okB c=true):(c :: r).takeWhile okB=c :: r.takeWhile okB:=by rw [List.takeWhile_cons,if_pos h]
theorem sgn1 (c:UInt8) (h:sgnB [c]=true):isLet c.toNat=false∧isDig c.toNat=false∧c.toNat ≠ 64∧blank c.toNat=false:=by
 unfold sgnB at h
 simp only [sgB,List.any_cons,List.any_nil,Bool.or_false,Bool.or_eq_true,beq_iff_eq,List.cons.injEq] at h
 simp only [reduceCtorEq,and_false,false_or,or_false,and_true] at h
 rcases h with h | h | h | h | h | h | h | h | h | h | h | h | h | h | h | h | h | h | h | h | h <;> subst h <;> decide
theorem sgn2 (c d:UInt8) (h:sgnB [c,d]=true):isLet c.toNat=false∧isDig c.toNat=false∧c.toNat ≠ 64∧blank c.toNat=false:=by
 unfold sgnB at h
 simp only [sgB,List.any_cons,List.any_nil,Bool.or_false,Bool.or_eq_true,beq_iff_eq,List.cons.injEq] at h
 simp only [reduceCtorEq,and_false,false_or,or_false,and_true] at h
 rcases h with h | h | h | h | h | h | h | h | h | h | h | h <;> obtain ⟨h,_⟩:=h <;> subst h <;> decide
theorem sgn_bl (c:UInt8):sgnB [c,32]=false:=by
 cases h:sgnB [c,32]
 ·rfl
 ·unfold sgnB at h
  simp only [sgB,List.any_cons,List.any_nil,Bool.or_false,Bool.or_eq_true,beq_iff_eq,List.cons.injEq] at h
  simp at h
theorem fs2_app {l:List UInt8} {m:List UInt8} (hm:Bh m):(fs2 l).2 ≠ 0 → fs2 (l.take (fs2 l).2 ++ m)=fs2 l:=by
 cases l with
 | nil=>exact fun hn=>absurd rfl hn
 | cons c r =>
  by_cases k1:isLet c.toNat=true
  ·intro _
   rw [fs2_let k1,tw_take,tw_cons r (okB_of (.inl k1)),List.cons_append,fs2_let k1,← List.cons_append,tw_app hm]
   intro d hd
   rcases List.mem_cons.1 hd with rfl | hd
   ·exact okB_of (.inl k1)
   ·exact tw_ok _ _ hd
  by_cases k2:isDig c.toNat=true
  ·intro _
   rw [fs2_dig k1 k2,tw_take,tw_cons r (okB_of (.inr k2)),List.cons_append,fs2_dig k1 k2,← List.cons_append,tw_app hm]
   intro d hd
   rcases List.mem_cons.1 hd with rfl | hd
   ·exact okB_of (.inr k2)
   ·exact tw_ok _ _ hd
  by_cases k3:c.toNat=64∧(match r with | []=>false | d :: _=>isLet d.toNat)=true
  ·cases r with
   | nil=>exact absurd k3.2 (by simp)
   | cons d r =>
    have k4:isLet d.toNat=true:=k3.2
    intro _
    rw [fs2_at k1 k2 k3.1 k4,show (1 + ((d :: r).takeWhile okB).length)=((d :: r).takeWhile okB).length + 1 by omega,List.take_succ_cons,tw_take,tw_cons r (okB_of (.inl k4)),List.cons_append,List.cons_append,fs2_at k1 k2 k3.1 k4,← List.cons_append,tw_app hm]
    ·rw [Nat.add_comm]
    ·intro d hd
     rcases List.mem_cons.1 hd with rfl | hd
     ·exact okB_of (.inl k4)
     ·exact tw_ok _ _ hd
  ·rw [fs2_sg k1 k2 k3]
   intro hn
   have one:sgnB [c]=true → (fs2 ([c] ++ m))=(2,1):=fun h=>by
    obtain ⟨a1,a2,a3,a4⟩:=sgn1 c h
    rw [List.singleton_append,fs2_sg (by rw [a1]; decide) (by rw [a2]; decide) (fun h=>a3 h.1)]
    rcases hm with rfl | ⟨m,rfl⟩
    ·show sgL [c] 1=_
     unfold sgL
     rw [if_pos (by simpa using h)]
    ·rw [show min 2 ((32 :: m).length + 1)=2 by simp only [List.length_cons]; omega]
     unfold sgL
     rw [if_neg (by simp [sgn_bl])]
     unfold sgL
     rw [if_pos (by simpa using h)]
   cases r with
   | nil =>
    rw [show min 2 (([]:List UInt8).length + 1)=1 from rfl] at hn ⊢
    unfold sgL at hn ⊢
    by_cases h:sgnB (List.take (0 + 1) [c])=true
    ·rw [if_pos h]
     exact one h
    ·rw [if_neg h] at hn
     exact absurd rfl hn
   | cons d r =>
    rw [show min 2 ((d :: r).length + 1)=2 by simp only [List.length_cons]; omega] at hn ⊢
    unfold sgL at hn ⊢
    by_cases h:sgnB (List.take (1 + 1) (c :: d :: r))=true
    ·rw [if_pos h]
     have h2:sgnB [c,d]=true:=h
     obtain ⟨a1,a2,a3,a4⟩:=sgn2 c d h2
     show fs2 (c :: d :: m)=_
     rw [fs2_sg (by rw [a1]; decide) (by rw [a2]; decide) (fun h=>a3 h.1),show min 2 ((d :: m).length + 1)=2 by simp only [List.length_cons]; omega]
     unfold sgL
     rw [if_pos (show sgnB (List.take (1 + 1) (c :: d :: m))=true from h2)]
    ·rw [if_neg h] at hn ⊢
     unfold sgL at hn ⊢
     by_cases h2:sgnB (List.take (0 + 1) (c :: d :: r))=true
     ·rw [if_pos h2]
      exact one h2
     ·rw [if_neg h2] at hn
      exact absurd rfl hn
structure TK (x:Tok):Prop where
 pos:0 < x.text.size
 fs:∀ m,Bh m → fs2 (x.text.data.toList ++ m)=(x.kind,x.text.size)
 hd:∀ c r,x.text.data.toList=c :: r → blank c.toNat=false
theorem ext_list (s:ByteArray) (a n:Nat):(s.extract a (a + n)).data.toList=(s.data.toList.drop a).take n:=by
 rw [Lib.extract_data,Nat.add_sub_cancel_left]
theorem yl_tk (s:ByteArray):∀ n a,s.size - a ≤ n → ∀ t ∈ yl s a,hasT t=true → TK t:=by
 intro n
 induction n with
 | zero =>
  intro a hn t ht _
  rw [yl_end (by omega)] at ht
  cases ht
 | succ n ih =>
  intro a hn t ht hh
  by_cases h:a < s.size
  ·cases hb:blank (s[a]'h).toNat
   case true =>
    rw [yl_blank h hb] at ht
    exact ih (a + 1) (by omega) t ht hh
   case false =>
    by_cases h0:(fs2 (s.data.toList.drop a)).2=0
    ·rw [yl_no h hb h0,List.mem_singleton] at ht
     subst ht
     exact Bool.noConfusion (show false=true from hh)
    ·rw [yl_yes h hb h0] at ht
     rcases List.mem_cons.1 ht with rfl | ht
     ·have hle:=fs2_len (s.data.toList.drop a)
      rw [List.length_drop,← Lib.size_eq] at hle
      have hl:a < s.data.toList.length:=by rw [← Lib.size_eq]; exact h
      have hd:s.data.toList.drop a=s.data.toList[a] :: s.data.toList.drop (a + 1):=List.drop_eq_getElem_cons hl
      have hc:s.data.toList[a]=s[a]'h:=rfl
      refine ⟨of_decide_eq_true hh,fun m hm=>?_,fun c r hcr=>?_⟩
      ·show fs2 ((s.extract a (a + (fs2 (s.data.toList.drop a)).2)).data.toList ++ m)=((fs2 (s.data.toList.drop a)).1,(s.extract a (a + (fs2 (s.data.toList.drop a)).2)).size)
       rw [ext_list,fs2_app hm h0,ByteArray.size_extract,show min (a + (fs2 (s.data.toList.drop a)).2) s.size - a=(fs2 (s.data.toList.drop a)).2 by omega]
      ·have h2:(s.extract a (a + (fs2 (s.data.toList.drop a)).2)).data.toList=c :: r:=hcr
       rw [ext_list,hd] at h2
       cases hk:(fs2 (s.data.toList[a] :: s.data.toList.drop (a + 1))).2 with
       | zero=>rw [hd] at h0; exact absurd hk h0
       | succ k =>
        rw [hk,List.take_succ_cons] at h2
        rw [← (List.cons.inj h2).1,hc]
        exact hb
     ·exact ih _ (by omega) t ht hh
  ·rw [yl_end h] at ht
   cases ht
theorem lexS_yl {s:ByteArray} (h:(lexS s).2.2=0):(lexS s).1=yl s 0∧(∀ x ∈ yl s 0,hasT x=true):=by
 obtain ⟨i1,i2,i3,_⟩:=toks_yl s s.size 0 [] (by omega) (by omega)
 have hall:∀ x ∈ yl s 0,hasT x=true:=fun x hx=>by
  cases hh:hasT x
  ·obtain ⟨pre,e⟩:=i3 x hx hh
   have h2:=i2 pre x e hh
   unfold lexS at h
   rw [h2] at h
   simp only at h
   split at h
   ·exact absurd (show (3:Int)=0 from h) (by decide)
   ·rw [if_neg (by decide)] at h
    exact absurd (show (2:Int)=0 from h) (by decide)
  ·rfl
 refine ⟨?_,hall⟩
 have h1:=i1 hall
 unfold lexS at h ⊢
 rw [h1] at h ⊢
 simp only [if_true] at h ⊢
 split at h
 ·exact absurd (show (3:Int)=0 from h) (by decide)
 ·rename_i h4
  rw [if_neg h4]
  split at h
  ·exact absurd (show (3:Int)=0 from h) (by decide)
  ·rename_i h5
   rw [if_neg h5]
   rfl
theorem lexS_tk {s:ByteArray} (h:(lexS s).2.2=0):∀ x ∈ (lexS s).1,TK x:=by
 obtain ⟨h1,h2⟩:=lexS_yl h
 rw [h1]
 exact fun x hx=>yl_tk s s.size 0 (by omega) x hx (h2 x hx)
def joinS:List Tok → List UInt8
 | []=>[]
 | [x]=>x.text.data.toList
 | x :: y :: r=>x.text.data.toList ++ 32 :: joinS (y :: r)
def plc (a:Nat):List Tok → List Tok
 | []=>[]
 | x :: r=>⟨x.kind,a,x.text⟩ :: plc (a + x.text.size + 1) r
theorem plc_len:∀ (l:List Tok) (a:Nat),(plc a l).length=l.length
 | [],_=>rfl
 | x :: r,a=>by rw [plc,List.length_cons,plc_len r,List.length_cons]
theorem plc_get:∀ (l:List Tok) (a i:Nat),((plc a l)[i]?).map Tok.text=(l[i]?).map Tok.text∧((plc a l)[i]?).map Tok.kind=(l[i]?).map Tok.kind
 | [],_,_=>⟨rfl,rfl⟩
 | x :: r,a,0=>⟨rfl,rfl⟩
 | x :: r,a,i + 1=>by
  simp only [plc,List.getElem?_cons_succ]
  exact plc_get r _ i
theorem joinS_cons (x:Tok) (r:List Tok):∃ m,joinS (x :: r)=x.text.data.toList ++ m∧Bh m∧(r=[]∧m=[] ∨ m=32 :: joinS r):=by
 cases r with
 | nil=>exact ⟨[],by rw [List.append_nil]; rfl,.inl rfl,.inl ⟨rfl,rfl⟩⟩
 | cons y r=>exact ⟨32 :: joinS (y :: r),rfl,.inr ⟨_,rfl⟩,.inr rfl⟩
theorem yl_join (s:ByteArray):∀ (l:List Tok) (a:Nat),(∀ x ∈ l,TK x) → s.data.toList.drop a=joinS l → yl s a=plc a l
 | [],a,_,h=>by
  refine yl_end fun hlt=>?_
  rw [Lib.size_eq] at hlt
  have:=congrArg List.length h
  rw [List.length_drop] at this
  simp only [joinS,List.length_nil] at this
  omega
 | x :: r,a,ht,h=>by
  obtain ⟨m,h1,hm,h2⟩:=joinS_cons x r
  have hx:=ht x (List.mem_cons_self ..)
  rw [h1] at h
  have hne:∃ c q,x.text.data.toList=c :: q:=by
   cases hq:x.text.data.toList with
   | nil=>have:=hx.pos; rw [Lib.size_eq,hq] at this; exact absurd this (by decide)
   | cons c q=>exact ⟨c,q,rfl⟩
  obtain ⟨c,q,hcq⟩:=hne
  have hlt:a < s.data.toList.length:=by
   rcases Nat.lt_or_ge a s.data.toList.length with h3 | h3
   ·exact h3
   ·rw [List.drop_eq_nil_of_le h3,hcq] at h
    cases h
  have hs:a < s.size:=by rw [Lib.size_eq]; exact hlt
  have hd:s.data.toList.drop a=s.data.toList[a] :: s.data.toList.drop (a + 1):=List.drop_eq_getElem_cons hlt
  have hc:s.data.toList[a]=s[a]'hs:=rfl
  have hb:blank (s[a]'hs).toNat=false:=by
   rw [← hc]
   rw [hd,hcq,List.cons_append] at h
   rw [(List.cons.inj h).1]
   exact hx.hd c q hcq
  have hf:fs2 (s.data.toList.drop a)=(x.kind,x.text.size):=by rw [h]; exact hx.fs m hm
  have hdr:s.data.toList.drop (a + x.text.size)=m:=by
   rw [← List.drop_drop,h,Lib.size_eq,List.drop_left]
  rw [yl_yes hs hb (by rw [hf]; exact Nat.pos_iff_ne_zero.1 hx.pos),hf,plc]
  have he:s.extract a (a + x.text.size)=x.text:=by
   refine ByteArray.ext (Array.toList_inj.1 ?_)
   rw [ext_list,h,Lib.size_eq,List.take_left]
  show (⟨x.kind,a,s.extract a (a + x.text.size)⟩:Tok) :: yl s (a + x.text.size)=_
  rw [he]
  congr 1
  rcases h2 with ⟨rfl,rfl⟩ | rfl
  ·refine yl_end fun hlt2=>?_
   have:=congrArg List.length hdr
   rw [List.length_drop,← Lib.size_eq] at this
   simp only [List.length_nil] at this
   omega
  ·have hlt2:a + x.text.size < s.data.toList.length:=by
    rcases Nat.lt_or_ge (a + x.text.size) s.data.toList.length with h3 | h3
    ·exact h3
    ·rw [List.drop_eq_nil_of_le h3] at hdr
     cases hdr
   have hs2:a + x.text.size < s.size:=by rw [Lib.size_eq]; exact hlt2
   have hd2:s.data.toList.drop (a + x.text.size)=s.data.toList[a + x.text.size] :: s.data.toList.drop (a + x.text.size + 1):=List.drop_eq_getElem_cons hlt2
   have hc2:s.data.toList[a + x.text.size]=s[a + x.text.size]'hs2:=rfl
   rw [hd2] at hdr
   obtain ⟨e1,e2⟩:=List.cons.inj hdr
   rw [yl_blank hs2 (by rw [← hc2,e1]; decide)]
   exact yl_join s r _ (fun y hy=>ht y (List.mem_cons_of_mem _ hy)) e2
theorem lexS_join {s:ByteArray} {l:List Tok} (ht:∀ x ∈ l,TK x) (h:s.data.toList=joinS l) (hs:s.size ≤ 4000) (hl:l.length ≤ 1000):lexS s=(plc 0 l,l.length,0):=by
 have e:yl s 0=plc 0 l:=yl_join s l 0 ht (by rw [List.drop_zero,h])
 have h2:=lexS_of (s:=s) (L:=plc 0 l) hs ((yl_F s s.size 0 (by omega)).symm.trans e) ?_ (by rw [plc_len]; exact hl)
 ·rw [h2,plc_len]
 ·refine List.all_eq_true.2 fun x hx=>?_
  have:∀ (l:List Tok) (a:Nat),(∀ x ∈ l,TK x) → ∀ x ∈ plc a l,hasT x=true:=fun l=>by
   induction l with
   | nil=>intro a _ x hx; cases hx
   | cons y r ih =>
    intro a hy x hx
    rcases List.mem_cons.1 hx with rfl | hx
    ·exact decide_eq_true (hy y (List.mem_cons_self ..)).pos
    ·exact ih _ (fun z hz=>hy z (List.mem_cons_of_mem _ hz)) x hx
  exact this l 0 ht x hx
theorem begins_plain {src s:ByteArray} {M:List Tok} {n:Nat} (h0:(lexS src).2.2=0) (he:(parsS src).2.2=2) (hk:(parsS src).2.1=n) (hn:n < (lexS src).1.length) (hM:∀ x ∈ M,TK x)
  (hs:s.size ≤ 4000) (hj:s.data.toList=joinS ((lexS src).1.take (n + 1) ++ M)) (hl:n + 1 + M.length ≤ 1000):(parsS s).2=(n,2):=by
 have hT:∀ x ∈ (lexS src).1.take (n + 1) ++ M,TK x:=fun x hx=>by
  rcases List.mem_append.1 hx with hx | hx
  ·exact lexS_tk h0 x (List.mem_of_mem_take hx)
  ·exact hM x hx
 have hlen:((lexS src).1.take (n + 1) ++ M).length ≤ 1000:=by
  rw [List.length_append,List.length_take]
  omega
 have hL:=lexS_join hT hj hs hlen
 have hp:prgS (lexS src).1 .nil 0=some (.bad n):=by
  unfold parsS at he hk
  rw [if_pos h0] at he hk
  unfold prsL at he hk
  cases hr:prgS (lexS src).1 .nil 0 with
  | none=>rw [hr] at he; exact absurd (show (0:Int)=2 from he) (by decide)
  | some r =>
   cases r with
   | ok x c =>
    rw [hr] at he
    simp only at he
    split at he
    ·exact absurd (show (3:Int)=2 from he) (by decide)
    ·exact absurd (show (0:Int)=2 from he) (by decide)
   | bad k =>
    rw [hr] at hk
    rw [show k=n from hk]
 have hA:Ag (lexS src).1 (plc 0 ((lexS src).1.take (n + 1) ++ M)) n:=by
  have hg:∀ i,i ≤ n → ((lexS src).1.take (n + 1) ++ M)[i]?=(lexS src).1[i]?:=fun i hi=>by
   rw [List.getElem?_append_left (by rw [List.length_take]; omega),List.getElem?_take_of_lt (by omega)]
  refine ⟨fun i hi=>?_,fun i hi=>?_⟩
  ·unfold tx
   rw [(plc_get _ 0 i).1,hg i hi]
  ·unfold kd_
   rw [(plc_get _ 0 i).2,hg i hi]
 have h2:=(prgS_pf hA (by rw [plc_len,List.length_append,List.length_take]; omega) _ .nil 0 (Nat.le_refl _) hp).2
 unfold parsS
 rw [hL]
 show (prsL (plc 0 ((lexS src).1.take (n + 1) ++ M))).2=(n,2)
 unfold prsL
 rw [h2]
end Go.Proofs.YtmmnhbhnjiajhaaGreatDoor.c
