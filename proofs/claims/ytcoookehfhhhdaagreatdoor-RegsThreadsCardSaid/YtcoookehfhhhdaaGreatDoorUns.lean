/- Which instruction is wrong first, and what Check answers, told plainly. No program in sight. Heights of instructions, told plainly; slices that read as lists of numbers. No program in sight. Contract of code.Check. The table strings.asciiSpace holds what its text lays; sizes are bounded. Stack code's runs, told plainly: a run is a derivation, there is one at most, and each comes to an end within the quota. No condition. Contract of the reference's unsound. Conditions: what right code is good for. Contract of the reference's Check. Conditions: sizes. -/
import Derived.Test.YtcoookehfhhhdaaGreatDoorReach
import Derived.Test.YtcoookehfhhhdaaGreatDoorLib
import Derived.Test.YtcoookehfhhhdaaGreatDoorFuncs
import Derived.Test.YtcoookehfhhhdaaGreatDoorLookC
import Derived.Test.YtcoookehfhhhdaaGreatDoorTy
import Derived.Test.YtcoookehfhhhdaaGreatDoorRpts
namespace Go.Proofs.YtcoookehfhhhdaaGreatDoor.c
open Go.RowKit
set_option linter.unusedVariables false
set_option maxRecDepth 100000
set_option maxHeartbeats 3200000
set_option linter.unusedSimpArgs false
open Classical in
noncomputable def unsoundS (c:List Cd):Int:=if h:∃ w,Least (BadIn c (Reach c)) w then Classical.choose h else 0
theorem unsound_eq {c:List Cd} {w:Int} (h:Least (BadIn c (Reach c)) w):unsoundS c=w:=by
 unfold unsoundS
 rw [dif_pos ⟨w,h⟩]
 exact (Classical.choose_spec (⟨w,h⟩:∃ w,Least (BadIn c (Reach c)) w)).one h
noncomputable def badK (l:List Fc):Int:=findI (fun k=>decide (0 ≤ unsoundS (l.getD k default).code)) l.length
noncomputable def checkE (l:List Fc):Int × Int × Int:=if validS l=0 then (if 0 ≤ badK l then (badK l,unsoundS (l.getD (badK l).toNat default).code,7) else (0,0,0)) else (0,0,validS l)
theorem ret_i3c {a b c d e f:Int} (h:a=d) (h2:b=e) (h3:c=f):Ending.returned (.tuple #[.int .i64 a,.int .i64 b,.int .i64 c])=.returned (.tuple #[.int .i64 d,.int .i64 e,.int .i64 f]):=by rw [h,h2,h3]
theorem check_bad {l:List Fc} (h:validS l=0) {k:Nat} (hk:k < l.length) (hp:0 ≤ unsoundS (l.getD k default).code) (hn:∀ j,j < k → unsoundS (l.getD j default).code < 0):checkE l=((k:Int),unsoundS (l.getD k default).code,7):=by
 have e:badK l=k:=findI_hit hk (decide_eq_true hp) (fun j hj=>decide_eq_false (by have:=hn j hj; omega))
 unfold checkE
 rw [if_pos h,e,if_pos (by omega),Int.toNat_natCast]
theorem check_good {l:List Fc} (h:validS l=0) (hn:∀ j,j < l.length → unsoundS (l.getD j default).code < 0):checkE l=(0,0,0):=by
 have e:badK l=-1:=findI_none (fun j hj=>decide_eq_false (by have:=hn j hj; omega))
 unfold checkE
 rw [if_pos h,e]
 rfl
theorem BadIn.inb {c:List Cd} (s:Sane c) {i:Int} (h:BadIn c (Reach c) i):0 ≤ i∧i < c.length:=by
 rcases h with ⟨p,hp,rfl,_⟩ | ⟨p,q,hp,_,rfl,_⟩
 ·exact ⟨(hp.inb s).1,(hp.inb s).2.1⟩
 ·exact ⟨(hp.inb s).1,(hp.inb s).2.1⟩
theorem leastC_any {B:Int → Prop} (h:∀ i,B i → 0 ≤ i):∃ w,Least B w:=by
 rcases Classical.em (∃ n:Nat,B n) with he | he
 ·obtain ⟨n,hn,hm⟩:=exists_least he
  refine ⟨n,fun h0=>by omega,fun _=>⟨hn,fun i hi=>?_⟩⟩
  have h0:=h i hi
  have:=hm i.toNat (by rwa [Int.toNat_of_nonneg h0])
  omega
 ·refine ⟨-1,fun _=>⟨rfl,fun i hi=>he ⟨i.toNat,?_⟩⟩,fun h0=>by omega⟩
  rwa [Int.toNat_of_nonneg (h i hi)]
theorem uns_spec {c:List Cd} (s:Sane c):Least (BadIn c (Reach c)) (unsoundS c):=by
 obtain ⟨w,hw⟩:=leastC_any (B:=BadIn c (Reach c)) (fun i hi=>(hi.inb s).1)
 rw [unsound_eq hw]
 exact hw
theorem uns_none {c:List Cd} (s:Sane c) (h:unsoundS c < 0) (i:Int):¬ BadIn c (Reach c) i:=((uns_spec s).1 h).2 i
theorem check_ok {l:List Fc} (h:(checkE l).2.2=0):validS l=0∧∀ k,k < l.length → unsoundS (l.getD k default).code < 0:=by
 unfold checkE at h
 by_cases hv:validS l=0
 ·rw [if_pos hv] at h
  by_cases hb:0 ≤ badK l
  ·rw [if_pos hb] at h; cases h
  ·refine ⟨hv,fun k hk=>?_⟩
   rcases findI_cases (fun k=>decide (0 ≤ unsoundS (l.getD k default).code)) l.length with ⟨e,hn⟩ | ⟨j,e,_,_⟩
   ·have:=hn k hk
    have h2:¬ 0 ≤ unsoundS (l.getD k default).code:=of_decide_eq_false this
    omega
   ·exact absurd (show 0 ≤ badK l by unfold badK; rw [e]; omega) hb
 ·rw [if_neg hv] at h
  exact absurd h hv

theorem look_cells (f:Fc) (w:World) (hC:CdAt w f.A f.code) (sn:Sane f.code) :
  Calls Tryz.prog 46 #[.agg #[.string f.name,.int .i64 f.params,.int .i64 f.places,.int .i64 f.ty.base,.int .i64 f.ty.bits,.string f.ty.name,.bool f.ty.opt,.bool f.ty.err,.slice f.A f.code.length f.cap]] w fun e w'=>∃ mb,e=.returned (.tuple #[.map (some mb),.int .i64 (unsoundS f.code)])∧Ext w w':=by
 refine (look_any f w hC sn).mono ?_
 rintro e w' ⟨mb,S,wr,rfl,x,_,_,_,_,hl⟩
 exact ⟨mb,by rw [unsound_eq hl],x⟩
theorem cCheck_any (A:Option Addr) (cap:Nat) (l:List Fc) (w:World) (g:Laid w) (hA:FcAt w A l) (hl:l.length ≤ 9223372036854775806) (hc:l.length ≤ 48 → countS l ≤ 9223372036854775806) (hfl:∀ f,f ∈ l → f.code.length ≤ 9223372036854775806) :
  Calls Tryz.prog 20 #[.slice A l.length cap] w fun e w'=>e=.returned (.tuple #[.int .i64 (checkE l).1,.int .i64 (checkE l).2.1,.int .i64 (checkE l).2.2])∧Ext w w':=by
 by_cases hv:validS l=0
 ·have HV:=Lib.hid hv
  have HCV:=Lib.hid (cValidate_any A cap l w g hA hl hc hfl)
  have HA:=Lib.hid hA
  clear hv hA hfl hc
  obtain ⟨len,hlen⟩:∃ len,len=l.length:=⟨_,rfl⟩
  rw [← hlen] at hl ⊢
  have HLn:=Lib.hid hlen
  clear hlen
  go_enter Tryz.func20,Tryz.ntmps20
  go_wp2_with (first | (go_at_call 45; rw [HLn.out]; refine (HCV.out).mono ?_; rw [HV.out,← HLn.out]; rintro r w1 ⟨rfl,x1⟩))
  have HX0:=Lib.hid x1
  clear x1
  go_loopw [17] (fun i wr=>∃ k:Nat,k ≤ len∧i=.int .i64 k∧(∀ j,j < k → unsoundS (l.getD j default).code < 0)∧Ext w wr) (fun i _=>len - (intOf i).toNat)
  case atStart=>exact ⟨0,Nat.zero_le _,rfl,fun j hj=>by omega,HX0.out⟩
  case round =>
   obtain ⟨k,hk,rfl,hn,hx⟩:=hrel
   have HN:=Lib.hid hn
   have HX:=Lib.hid hx
   clear hn hx
   by_cases hlt:k < len
   ·obtain ⟨f,hf⟩:∃ f,f=l.getD k default:=⟨_,rfl⟩
    obtain ⟨b,off,rfl,hb,c0,c1,c2,c3,c4,c5,c6,c7,c8,hcd⟩:=(HA.out.ext HX.out).at_ (k:=k) (by rw [← HLn.out]; exact hlt) hf
    obtain ⟨q,hq⟩:∃ q,q=unsoundS f.code:=⟨_,rfl⟩
    have HQ:=Lib.hid hq
    have HCD:=Lib.hid hcd
    have HF:=Lib.hid hf
    have HSN:Hid (Sane f.code):=sane_of HV.out (by rw [hf]; exact getD_mem (by rw [← HLn.out]; exact hlt))
    clear hf hcd hq
    go_wp2_with (first | (go_at_call 46; refine (look_cells f _ (HCD.out.ext exL) HSN.out).mono ?_; rw [← HQ.out]; rintro r w2 ⟨mb,rfl,x2⟩))
    case roundEnd =>
     have h9:q < 0:=by assumption
     refine ⟨⟨k + 1,by omega,by go_num,fun j hj=>?_,HX.out.trans exL⟩,by simp [intOf]; omega⟩
     rcases Nat.lt_or_ge j k with h | h
     ·exact HN.out j h
     ·obtain rfl:j=k:=by omega
      rw [← HF.out,← HQ.out]; exact h9
    all_goals
     have h9:0 ≤ q:=by assumption
     have e:=check_bad HV.out (k:=k) (by rw [← HLn.out]; exact hlt) (by rw [← HF.out,← HQ.out]; exact h9) HN.out
     rw [← HF.out,← HQ.out] at e
     go_ret3
     exact ⟨ret_i3c (by rw [e]) (by rw [e]) (by rw [e]),HX.out.trans exL⟩
   ·go_wp2_with fail
    go_ret3
    have e:=check_good HV.out (fun j hj=>HN.out j (by have:=HLn.out; omega))
    exact ⟨ret_i3c (by rw [e]) (by rw [e]) (by rw [e]),HX.out⟩
 ·obtain ⟨v,hvv⟩:∃ v,v=validS l:=⟨_,rfl⟩
  have hb:(v != 0)=true:=by rw [bne_iff_ne,hvv]; exact hv
  have HV:=Lib.hid hvv
  have HN:=Lib.hid hv
  have HCV:=Lib.hid (cValidate_any A cap l w g hA hl hc hfl)
  clear hvv hv hA hfl hc
  go_enter Tryz.func20,Tryz.ntmps20
  go_wp2_with (first | (go_at_call 45; refine (HCV.out).mono ?_; rw [← HV.out]; rintro r w1 ⟨rfl,x1⟩))
  go_ret3
  exact ⟨ret_i3c (by unfold checkE; rw [if_neg HN.out]) (by unfold checkE; rw [if_neg HN.out]) (by unfold checkE; rw [if_neg HN.out,HV.out]),exL⟩
def topK (K:List Val):Val:=K.getD (K.length - 1) default
inductive Nk where
 | done (e:En)
 | go (p:Nat) (P:Nat → Val) (K:List Val)
 | call (nm:ByteArray) (av:List Val) (K:List Val)
def oneK (ck:Bool) (x:Cd) (v:Val):Int × Int :=
 if x.op=8 then (b01 (v.n == 0),0)
 else if x.op=11 then (if (ck && v.null)=true then (0,4) else (v.n,0))
 else if x.op=7 then (if (ck && !fitI (x.ty.base == 3) x.ty.bits (-bendI (x.ty.base == 3) x.ty.bits v.n))=true then (0,1) else (bendI (x.ty.base == 3) x.ty.bits (-bendI (x.ty.base == 3) x.ty.bits v.n),0))
 else if x.op=9 then (if (ck && !fitI (x.ty.base == 3) x.ty.bits v.n)=true then (0,3) else (bendI (x.ty.base == 3) x.ty.bits v.n,0))
 else (bendI (x.ty.base == 3) x.ty.bits v.n,0)
def twoK (ck:Bool) (x:Cd) (u v:Val):Int × Int :=
 if x.op=6 then (b01 (cmpB x.a u.n v.n),0)
 else if (ck && whyI x.a (x.ty.base == 3) x.ty.bits (bendI (x.ty.base == 3) x.ty.bits u.n) (bendI (x.ty.base == 3) x.ty.bits v.n) != 0)=true then (0,whyI x.a (x.ty.base == 3) x.ty.bits (bendI (x.ty.base == 3) x.ty.bits u.n) (bendI (x.ty.base == 3) x.ty.bits v.n))
 else (looseI x.a (x.ty.base == 3) x.ty.bits (bendI (x.ty.base == 3) x.ty.bits u.n) (bendI (x.ty.base == 3) x.ty.bits v.n),0)
def putK (q:Int × Int) (p:Nat) (P:Nat → Val) (K:List Val):Nk:=bif q.2 != 0 then .done (.stop q.2) else .go (p + 1) P (K ++ [nv q.1])
def stepK (ck:Bool) (x:Cd) (p:Nat) (P:Nat → Val) (K:List Val):Nk :=
 if x.op=0 then .go (p + 1) P (K ++ [nv (wrapT x.ty x.a)])
 else if x.op=1 then .go (p + 1) P (K ++ [pv 0 true ⟨#[]⟩])
 else if x.op=2 then .go (p + 1) P (K ++ [P x.a.toNat])
 else if x.op=3 then .go (p + 1) (upd P x.a.toNat (topK K)) (K.take (K.length - 1))
 else if x.op=4 then .go (p + 1) P (K.take (K.length - 1))
 else if x.op=5 ∨ x.op=6 then putK (twoK ck x (K.getD (K.length - 2) default) (topK K)) p P (K.take (K.length - 2))
 else if x.op=12 then (bif (topK K).null then .go x.a.toNat P (K.take (K.length - 1)) else .go (p + 1) P K)
 else if x.op=13 then .go (bif !emp (topK K).err then x.a.toNat else p + 1) P K
 else if x.op=14 then .go x.a.toNat P K
 else if x.op=15 then .go (bif (topK K).n == 0 then x.a.toNat else p + 1) P (K.take (K.length - 1))
 else if x.op=16 then .call x.name (K.drop (K.length - x.b.toNat)) (K.take (K.length - x.b.toNat))
 else if x.op=17 then .done (.ret (topK K))
 else if x.op=18 then .go (p + 1) P (K ++ [pv 0 false x.name])
 else if x.op=19 then .done (bif ck then .stop x.a else .ret default)
 else putK (oneK ck x (topK K)) p P (K.take (K.length - 1))
inductive CfK where
 | call (d k:Nat) (av:List Val)
 | at_ (d k p:Nat) (P:Nat → Val) (K:List Val)
inductive RunK (l:List Fc) (ck:Bool):CfK → Nat → En → Nat → Prop where
 | deep {d k av s}:30 < d → RunK l ck (.call d k av) s .long s
 | enter {d k av s e t}:d ≤ 30 → RunK l ck (.at_ d k 0 (fun i=>av.getD i default) []) s e t → RunK l ck (.call d k av) s e t
 | full {d k p P K s}:40000 ≤ s → RunK l ck (.at_ d k p P K) s .long s
 | done {d k p P K s e}:s < 40000 → stepK ck ((l.getD k default).code.getD p default) p P K=.done e → RunK l ck (.at_ d k p P K) s e (s + 1)
 | go {d k p P K s e t p' P' K'}:s < 40000 → stepK ck ((l.getD k default).code.getD p default) p P K=.go p' P' K' → RunK l ck (.at_ d k p' P' K') (s + 1) e t → RunK l ck (.at_ d k p P K) s e t
 | callX {d k p P K s e t nm av r}:s < 40000 → stepK ck ((l.getD k default).code.getD p default) p P K=.call nm av r → RunK l ck (.call (d + 1) (indexS l nm).toNat av) (s + 1) e t → (∀ v,e ≠ .ret v) → RunK l ck (.at_ d k p P K) s e t
 | callR {d k p P K s v t e u nm av r}:s < 40000 → stepK ck ((l.getD k default).code.getD p default) p P K=.call nm av r → RunK l ck (.call (d + 1) (indexS l nm).toNat av) (s + 1) (.ret v) t → RunK l ck (.at_ d k (p + 1) P (r ++ [v])) t e u → RunK l ck (.at_ d k p P K) s e u
theorem RunK.mono {l:List Fc} {ck:Bool} {c:CfK} {s:Nat} {e:En} {t:Nat} (h:RunK l ck c s e t):s ≤ t:=by
 induction h with
 | deep _=>exact Nat.le_refl _
 | enter _ _ ih=>exact ih
 | full _=>exact Nat.le_refl _
 | done _ _=>omega
 | go _ _ _ ih=>omega
 | callX _ _ _ _ ih=>omega
 | callR _ _ _ _ ih1 ih2=>omega
theorem RunK.det {l:List Fc} {ck:Bool} {c:CfK} {s:Nat} {e:En} {t:Nat} (h:RunK l ck c s e t):∀ {e2:En} {t2:Nat},RunK l ck c s e2 t2 → e=e2∧t=t2:=by
 induction h with
 | deep h1=>intro e2 t2 h; cases h with
  | deep _=>exact ⟨rfl,rfl⟩
  | enter h2 _=>omega
 | enter h1 _ ih=>intro e2 t2 h; cases h with
  | deep _=>omega
  | enter _ h2=>exact ih h2
 | full h1=>intro e2 t2 h; cases h with
  | full _=>exact ⟨rfl,rfl⟩
  | done h2=>omega
  | go h2=>omega
  | callX h2=>omega
  | callR h2=>omega
 | done h1 h2=>intro e2 t2 h; cases h with
  | full _=>omega
  | done _ h3=>rw [h2] at h3; cases h3; exact ⟨rfl,rfl⟩
  | go _ h3=>rw [h2] at h3; cases h3
  | callX _ h3=>rw [h2] at h3; cases h3
  | callR _ h3=>rw [h2] at h3; cases h3
 | go h1 h2 _ ih=>intro e2 t2 h; cases h with
  | full _=>omega
  | done _ h3=>rw [h2] at h3; cases h3
  | go _ h3 h4=>rw [h2] at h3; cases h3; exact ih h4
  | callX _ h3=>rw [h2] at h3; cases h3
  | callR _ h3=>rw [h2] at h3; cases h3
 | callX h1 h2 _ h5 ih=>intro e2 t2 h; cases h with
  | full _=>omega
  | done _ h3=>rw [h2] at h3; cases h3
  | go _ h3=>rw [h2] at h3; cases h3
  | callX _ h3 h4 _=>rw [h2] at h3; cases h3; exact ih h4
  | callR _ h3 h4 _=>rw [h2] at h3; cases h3; exact absurd (ih h4).1 (h5 _)
 | callR h1 h2 _ _ ih1 ih2=>intro e2 t2 h; cases h with
  | full _=>omega
  | done _ h3=>rw [h2] at h3; cases h3
  | go _ h3=>rw [h2] at h3; cases h3
  | callX _ h3 h4 h5=>rw [h2] at h3; cases h3; exact absurd (ih1 h4).1.symm (h5 _)
  | callR _ h3 h4 h5 =>
   rw [h2] at h3
   cases h3
   obtain ⟨e1,rfl⟩:=ih1 h4
   cases e1
   exact ih2 h5
theorem RunK.quota {l:List Fc} {ck:Bool} {c:CfK} {s:Nat} {e:En} {t:Nat} (h:RunK l ck c s e t):s ≤ 40000 → t ≤ 40000:=by
 induction h with
 | deep _=>exact fun h=>h
 | enter _ _ ih=>exact ih
 | full _=>exact fun h=>h
 | done h _=>intro _; omega
 | go h _ _ ih=>intro _; exact ih (by omega)
 | callX h _ _ _ ih=>intro _; exact ih (by omega)
 | callR h _ _ _ ih1 ih2=>intro _; exact ih2 (ih1 (by omega))
theorem RunK.total_at {l:List Fc} {ck:Bool} {d:Nat} (hc:∀ k av s,∃ e t,RunK l ck (.call (d + 1) k av) s e t):∀ (q s k p:Nat) (P:Nat → Val) (K:List Val),40000 ≤ s + q → ∃ e t,RunK l ck (.at_ d k p P K) s e t:=by
 intro q
 induction q with
 | zero=>intro s k p P K h; exact ⟨_,_,.full (by omega)⟩
 | succ q ih =>
  intro s k p P K h
  rcases Nat.lt_or_ge s 40000 with hs | hs
  ·cases hst:stepK ck ((l.getD k default).code.getD p default) p P K with
   | done e=>exact ⟨_,_,.done hs hst⟩
   | go p' P' K' =>
    obtain ⟨e,t,hr⟩:=ih (s + 1) k p' P' K' (by omega)
    exact ⟨_,_,.go hs hst hr⟩
   | call nm av r =>
    obtain ⟨e,t,hr⟩:=hc (indexS l nm).toNat av (s + 1)
    cases e with
    | ret v =>
     have:=hr.mono
     obtain ⟨e2,t2,hr2⟩:=ih t k (p + 1) P (r ++ [v]) (by omega)
     exact ⟨_,_,.callR hs hst hr hr2⟩
    | stop y=>exact ⟨_,_,.callX hs hst hr (fun v=>by intro e; cases e)⟩
    | long=>exact ⟨_,_,.callX hs hst hr (fun v=>by intro e; cases e)⟩
  ·exact ⟨_,_,.full hs⟩
theorem RunK.total_n {l:List Fc} {ck:Bool}:∀ (n d:Nat),31 ≤ d + n → ∀ k av s,∃ e t,RunK l ck (.call d k av) s e t:=by
 intro n
 induction n with
 | zero=>intro d h k av s; exact ⟨_,_,.deep (by omega)⟩
 | succ n ih =>
  intro d h k av s
  rcases Nat.lt_or_ge 30 d with hd | hd
  ·exact ⟨_,_,.deep hd⟩
  ·obtain ⟨e,t,hr⟩:=RunK.total_at (ih (d + 1) (by omega)) 40000 s k 0 (fun i=>av.getD i default) [] (by omega)
   exact ⟨_,_,.enter hd hr⟩
theorem RunK.total (l:List Fc) (ck:Bool) (d k:Nat) (av:List Val) (s:Nat):∃ e t,RunK l ck (.call d k av) s e t:=RunK.total_n 31 d (by omega) k av s
section
variable {l:List Fc} {ck:Bool} {d k p:Nat} {P:Nat → Val} {K:List Val} {s:Nat} {e:En} {t:Nat} {av:List Val}
theorem RunK.inv_deep (h:RunK l ck (.call d k av) s e t) (hd:30 < d):e=.long∧t=s:=h.det (.deep hd)
theorem RunK.inv_enter (h:RunK l ck (.call d k av) s e t) (hd:d ≤ 30):RunK l ck (.at_ d k 0 (fun i=>av.getD i default) []) s e t:=by
 cases h with
 | deep _=>omega
 | enter _ h=>exact h
theorem RunK.inv_full (h:RunK l ck (.at_ d k p P K) s e t) (hs:40000 ≤ s):e=.long∧t=s:=h.det (.full hs)
theorem RunK.inv_done {e':En} (h:RunK l ck (.at_ d k p P K) s e t) (hs:s < 40000) (hst:stepK ck ((l.getD k default).code.getD p default) p P K=.done e'):e=e'∧t=s + 1:=h.det (.done hs hst)
theorem RunK.inv_go {p':Nat} {P':Nat → Val} {K':List Val} (h:RunK l ck (.at_ d k p P K) s e t) (hs:s < 40000) (hst:stepK ck ((l.getD k default).code.getD p default) p P K=.go p' P' K'):RunK l ck (.at_ d k p' P' K') (s + 1) e t:=by
 cases h with
 | full _=>omega
 | done _ h2=>rw [hst] at h2; cases h2
 | go _ h2 h3=>rw [hst] at h2; cases h2; exact h3
 | callX _ h2=>rw [hst] at h2; cases h2
 | callR _ h2=>rw [hst] at h2; cases h2
theorem RunK.inv_call {nm:ByteArray} {av:List Val} {r:List Val} (h:RunK l ck (.at_ d k p P K) s e t) (hs:s < 40000) (hst:stepK ck ((l.getD k default).code.getD p default) p P K=.call nm av r) :
  ∃ e1 t1,RunK l ck (.call (d + 1) (indexS l nm).toNat av) (s + 1) e1 t1∧(((∀ v,e1 ≠ .ret v)∧e=e1∧t=t1) ∨ ∃ v,e1=.ret v∧RunK l ck (.at_ d k (p + 1) P (r ++ [v])) t1 e t):=by
 cases h with
 | full _=>omega
 | done _ h2=>rw [hst] at h2; cases h2
 | go _ h2 h3=>rw [hst] at h2; cases h2
 | callX _ h2 h3 h4=>rw [hst] at h2; cases h2; exact ⟨_,_,h3,.inl ⟨h4,rfl,rfl⟩⟩
 | callR _ h2 h3 h4=>rw [hst] at h2; cases h2; exact ⟨_,_,h3,.inr ⟨_,rfl,h4⟩⟩
end
theorem und_map:Tryz.prog.underlying 61 = some (.map (Tryz.prog.mapKeyOf 61) (Tryz.prog.mapElemOf 61)):=by kernel_rfl
theorem und_map2:Tryz.prog.underlying 61 = some (.map 3 4):=Tryz.underlying61
theorem row_two {S:List (Int × Int)} {i:Int}:(∃ x y,x ≠ y∧rowV S i x ≠ none∧rowV S i y ≠ none) ↔ ∃ h k,h ≠ k∧(i,h) ∈ S∧(i,k) ∈ S:=by
 constructor
 ·rintro ⟨x,y,hne,hx,hy⟩
  obtain ⟨h,h1,rfl⟩:=rowV_some hx
  obtain ⟨k,h2,rfl⟩:=rowV_some hy
  exact ⟨h,k,fun e=>hne (by rw [e]),h1,h2⟩
 ·rintro ⟨h,k,hne,h1,h2⟩
  exact ⟨.int .i64 h,.int .i64 k,fun e=>hne (by cases e; rfl),by rw [rowV_in h1]; simp,by rw [rowV_in h2]; simp⟩
def WbIs (c:List Cd) (S:List (Int × Int)) (O:Int → Bool) (i:Int) (L:Value → Prop) (wb:Bool):Prop :=
 wb=true ↔ (∃ h k,h ≠ k∧(i,h) ∈ S∧(i,k) ∈ S) ∨ O i=true ∨ ∃ h,(i,h) ∈ S∧¬ L (.int .i64 h)∧okH (xAt c (i,h)) h=false
section
variable {c:List Cd} {S:List (Int × Int)} {O:Int → Bool} {i h:Int} {L:Value → Prop} {wb:Bool}
theorem WbIs.start_two (e:∃ h k,h ≠ k∧(i,h) ∈ S∧(i,k) ∈ S):WbIs c S O i (fun x=>rowV S i x ≠ none) true:=⟨fun _=>.inl e,fun _=>rfl⟩
theorem WbIs.start_out (e:¬ ∃ h k,h ≠ k∧(i,h) ∈ S∧(i,k) ∈ S):WbIs c S O i (fun x=>rowV S i x ≠ none) (O i):=by
 refine ⟨fun h=>.inr (.inl h),?_⟩
 rintro (h | h | ⟨h,h1,h2,_⟩)
 ·exact absurd h e
 ·exact h
 ·exact absurd (show rowV S i (.int .i64 h) ≠ none by rw [rowV_in h1]; simp) h2
theorem WbIs.step_true (v:WbIs c S O i L true):WbIs c S O i (fun x=>L x∧x ≠ .int .i64 h) true:=by
 refine ⟨fun _=>?_,fun _=>rfl⟩
 rcases v.1 rfl with e | e | ⟨k,h1,h2,h3⟩
 ·exact .inl e
 ·exact .inr (.inl e)
 ·exact .inr (.inr ⟨k,h1,fun e=>h2 e.1,h3⟩)
theorem WbIs.step_false (v:WbIs c S O i L false) (hin:(i,h) ∈ S) {x:Cd} (hx:x=xAt c (i,h)):WbIs c S O i (fun x=>L x∧x ≠ .int .i64 h) (!okH x h):=by
 subst hx
 refine ⟨fun e=>.inr (.inr ⟨h,hin,fun e2=>e2.2 rfl,by simpa using e⟩),?_⟩
 rintro (e | e | ⟨k,h1,h2,h3⟩)
 ·exact absurd (v.2 (.inl e)) (by decide)
 ·exact absurd (v.2 (.inr (.inl e))) (by decide)
 ·by_cases e:k=h
  ·subst e; rw [h3]; rfl
  ·exact absurd (v.2 (.inr (.inr ⟨k,h1,fun e2=>h2 ⟨e2,fun e3=>e (by cases e3; rfl)⟩,h3⟩))) (by decide)
end
theorem Pairs.wrong {w w':World} {c:List Cd} {gs gm go:Nat} {S:List (Int × Int)} {O:Int → Bool} (p:Pairs w w' c gs gm go S O) {i:Int} {L:Value → Prop} {wb:Bool} (v:WbIs c S O i L wb) (hl:∀ x,¬ L x):wb=true ↔ BadIn c (Reach c) i:=by
 refine (show wb=true ↔ _ from v).trans ?_
 rw [p.bad i]
 constructor
 ·rintro (e | e | ⟨h,h1,_,h3⟩)
  ·exact .inr (.inl e)
  ·exact .inr (.inr e)
  ·exact .inl ⟨h,h1,h3⟩
 ·rintro (⟨h,h1,h3⟩ | e | e)
  ·exact .inr (.inr ⟨h,h1,hl _,h3⟩)
  ·exact .inl e
  ·exact .inr (.inl e)
theorem runsound_any (f:Fc) (w:World) (hC:CdAt w f.A f.code) (sn:Sane f.code) :
  Calls Tryz.prog 31 #[.agg #[.string f.name,.int .i64 f.params,.int .i64 f.places,.int .i64 f.ty.base,.int .i64 f.ty.bits,.string f.ty.name,.bool f.ty.opt,.bool f.ty.err,.slice f.A f.code.length f.cap]] w fun e w'=>e=.returned (.int .i64 (unsoundS f.code))∧Ext w w':=by
 have hfew:=sn.few
 have HC:=Lib.hid hC
 have SN:=Lib.hid sn
 have HFB:Hid (FcBox (w.alloc (.cells #[.string f.name,.int .i64 f.params,.int .i64 f.places,.int .i64 f.ty.base,.int .i64 f.ty.bits,.string f.ty.name,.bool f.ty.opt,.bool f.ty.err,.slice f.A f.code.length f.cap] 48)) w.heap.size f):=⟨Blk.new _ _ _⟩
 have HXW:Hid (Ext w (w.alloc (.cells #[.string f.name,.int .i64 f.params,.int .i64 f.places,.int .i64 f.ty.base,.int .i64 f.ty.bits,.string f.ty.name,.bool f.ty.opt,.bool f.ty.err,.slice f.A f.code.length f.cap] 48))):=(Ext.refl _).alloc _
 clear hC sn
 obtain ⟨len,hlen⟩:∃ len,len=f.code.length:=⟨_,rfl⟩
 have HLn:=Lib.hid hlen
 rw [← hlen] at hfew ⊢
 clear hlen
 go_enter Tryz.func31,Tryz.ntmps31
 go_wp2_with (first
  | (go_at_call 61
     refine (pairs_len f HLn.out _ (HC.out.ext ((Ext.refl _).alloc _)) SN.out).mono ?_
     rw [← HLn.out] at HFB HXW
     rintro r w1 ⟨gs,gm,go,S,O,rfl,ps⟩
     have PS:=Lib.hid ps
     clear ps))
 generalize (w.alloc (.cells #[.string f.name,.int .i64 f.params,.int .i64 f.places,.int .i64 f.ty.base,.int .i64 f.ty.bits,.string f.ty.name,.bool f.ty.opt,.bool f.ty.err,.slice f.A len f.cap] 48))=w0 at PS HFB HXW
 go_loopw [5,6,7] (fun i _ _ wr=>∃ k:Nat,k ≤ len∧i=.int .i64 k∧Pairs w0 wr f.code gs gm go S O∧∀ j:Int,0 ≤ j → j < k → ¬ BadIn f.code (Reach f.code) j) (fun i _ _ _=>len - (intOf i).toNat)
 case atStart=>exact ⟨0,Nat.zero_le _,rfl,PS.out,fun j h1 h2=>by omega⟩
 case round =>
  obtain ⟨k,hk,rfl,ps,hn⟩:=hrel
  have HN:=Lib.hid hn
  clear PS hn
  have PS:=Lib.hid ps
  have fb:=(HFB.out.ext ps.ext).cells.2.2.2.2.2.2.2.2
  rw [← HLn.out] at fb
  have zf:=(HFB.out.ext ps.ext).out.lt
  clear ps
  by_cases hlt:k < len
  ·have hkf:k < f.code.length:=by have:=HLn.out; omega
   have sc:=PS.out.seenc.cell hkf
   have oc:=PS.out.outc.cell hkf
   have zs:=PS.out.seenc.lt
   have zo:=PS.out.outc.lt
   obtain ⟨m,hm⟩:=PS.out.maps k hkf
   obtain ⟨es,clock,hb,hes,hcnt⟩:=hm.count
   have HM:=Lib.hid hm
   have HCN:=Lib.hid (hcnt.trans row_two)
   have hlm:=run_len_map (P:=Tryz.prog) (w:=wr) 61 3 (gm + k) es clock und_map hb
   clear hm hb hes hcnt
   generalize es.size=ne at *
   go_wp2_with (first
    | (at_range
       refine wpList_range_at rfl _ 61 rfl und_map2 HM.out rfl ?_
       intro w2 c rg g2 s2
       have RG:=Lib.hid rg
       have XR:=Lib.hid ((Ext.refl wr).grown g2 (fun k e=>by cases e))
       clear rg g2 s2))
   all_goals
    first
     | have W0:Hid (WbIs f.code S O k (fun x=>rowV S k x ≠ none) true):=WbIs.start_two (HCN.out.1 (by omega))
     | have W0:Hid (WbIs f.code S O k (fun x=>rowV S k x ≠ none) (O k)):=WbIs.start_out (fun e=>by have:=HCN.out.2 e; omega)
    clear sc oc zs zo HM HCN hlm fb zf
    obtain ⟨rr,hrr⟩:∃ rr,rr=wr.heap.size:=⟨_,rfl⟩
    rw [← hrr] at RG ⊢
    have HRR:=Lib.hid hrr
    clear hrr
    try go_frame
    go_loopw [6,7] (fun v _ w3=>∃ L c wb,v=.bool wb∧RngAt w3 (gm + k) rr (rowV S k) L c∧Ext wr w3∧WbIs f.code S O k L wb) (fun _ _ wr=>wr.rangeLeft (gm + k) rr)
    case atStart=>exact ⟨_,_,_,rfl,RG.out,XR.out,W0.out⟩
    case round =>
     clear RG XR W0
     obtain ⟨L,c,wb,rfl,rg,xr,wbi⟩:=hrel
     have RG:=Lib.hid rg
     have XR:=Lib.hid xr
     have PS2:=Lib.hid (PS.out.ext' xr)
     have WB:=Lib.hid wbi
     obtain ⟨y0,y1,y2,y3,y4,y5,y6,y7,y8⟩:=(HFB.out.ext PS2.out.ext).cells
     have zf:=(HFB.out.ext PS2.out.ext).out.lt
     rw [← HLn.out] at y8
     clear rg xr wbi
     go_wp2_with (first
      | (at_next; refine wpList_next_at rfl _ rfl rfl RG.out ?_ ?_))
     ·intro _ hl0
      have HL0:=Lib.hid hl0
      clear hl0 y0 y1 y2 y3 y4 y5 y6 y7 y8
      have HB:=Lib.hid (PS2.out.wrong WB.out HL0.out)
      cases wb
      ·go_wp2_with fail
       case roundEnd =>
        refine ⟨⟨k + 1,by omega,by go_num,PS2.out,fun j h1 h2 hb=>?_⟩,by simp [intOf]; omega⟩
        by_cases e:j=k
        ·subst e
         exact absurd (HB.out.2 hb) (by decide)
        ·exact HN.out j h1 (by omega) hb
      ·go_wp2_with fail
       go_ret
       refine ⟨ret_int (unsound_eq ⟨fun h=>by omega,fun _=>⟨HB.out.1 (by first | trivial | rfl),fun i hi=>?_⟩⟩).symm,HXW.out.trans PS2.out.ext⟩
       rcases (by omega:i < (k:Int) ∨ (k:Int) ≤ i) with h | h
       ·exact absurd hi (HN.out i (hi.inb SN.out).1 h)
       ·exact h
     ·intro key v w3 c3 hl hv rg3 hlt3 g3 s3 hen
      obtain ⟨h,hin,rfl⟩:=rowV_some (show rowV S k key ≠ none by rw [hv]; simp)
      have hi:=((PS2.out.all _).1 hin).inb SN.out
      obtain ⟨h1,h2⟩:0 ≤ h∧h ≤ 65:=hi.2.2
      have HIN:=Lib.hid hin
      have RG3:=Lib.hid rg3
      have XR3:=Lib.hid (XR.out.grown g3 (fun j e=>by cases e; have:=HRR.out; omega))
      obtain ⟨y0,y1,y2,y3,y4,y5,y6,y7,y8⟩:=(HFB.out.ext (PS.out.ext.trans XR3.out)).cells
      rw [← HLn.out] at y8
      rw [rowV_in hin] at hv
      cases hv
      have zf3:w.heap.size < w3.heap.size:=by omega
      have C3:=Lib.hid hlt3
      clear hl rg3 hlt3 g3 s3 hin hi XR
      obtain ⟨x,hx⟩:∃ x,x=xAt f.code ((k:Int),h):=⟨_,rfl⟩
      have HX:=Lib.hid hx
      clear hx
      cases wb
      ·go_wp2_with (first
        | (go_at_call 62
           refine (isHeight_len f HLn.out (k:=k) (h:=h) (x:=x) _ (HC.out.ext (HXW.out.trans (PS.out.ext.trans XR3.out))) hlt (by omega) HX.out).mono ?_
           rintro r w4 ⟨rfl,x4⟩))
       case roundEnd =>
        have r4:=RG3.out.ext x4
        refine ⟨⟨_,_,_,rfl,r4,XR3.out.trans x4,WB.out.step_false HIN.out HX.out⟩,?_⟩
        rw [r4.left_eq,RG.out.left_eq]
        exact C3.out
      ·go_wp2_with fail
       case roundEnd =>
        refine ⟨⟨_,_,_,rfl,RG3.out,XR3.out,WB.out.step_true⟩,?_⟩
        rw [RG3.out.left_eq,RG.out.left_eq]
        exact C3.out
  ·go_wp2_with fail
   go_ret
   refine ⟨ret_int (unsound_eq ⟨fun _=>⟨rfl,fun i hi=>?_⟩,fun h=>by omega⟩).symm,HXW.out.trans PS.out.ext⟩
   exact HN.out i (hi.inb SN.out).1 (by have:=(hi.inb SN.out).2; have:=HLn.out; omega) hi
theorem rCheck_any (A:Option Addr) (cap:Nat) (l:List Fc) (w:World) (hA:FcAt w A l) (hl:l.length ≤ 9223372036854775806) (hc:l.length ≤ 48 → countS l ≤ 9223372036854775806) (hfl:∀ f,f ∈ l → f.code.length ≤ 9223372036854775806) :
  Calls Tryz.prog 11 #[.slice A l.length cap] w fun e w'=>e=.returned (.tuple #[.int .i64 (checkE l).1,.int .i64 (checkE l).2.1,.int .i64 (checkE l).2.2])∧Ext w w':=by
 by_cases hv:validS l=0
 ·have HV:=Lib.hid hv
  have HCV:=Lib.hid (rValidate_any A cap l w hA hl hc hfl)
  have HA:=Lib.hid hA
  clear hv hA hfl hc
  obtain ⟨len,hlen⟩:∃ len,len=l.length:=⟨_,rfl⟩
  rw [← hlen] at hl ⊢
  have HLn:=Lib.hid hlen
  clear hlen
  go_enter Tryz.func11,Tryz.ntmps11
  go_wp2_with (first | (go_at_call 30; rw [HLn.out]; refine (HCV.out).mono ?_; rw [HV.out,← HLn.out]; rintro r w1 ⟨rfl,x1⟩))
  have HX0:=Lib.hid x1
  clear x1
  go_loopw [6,7] (fun i _ wr=>∃ k:Nat,k ≤ len∧i=.int .i64 k∧(∀ j,j < k → unsoundS (l.getD j default).code < 0)∧Ext w wr) (fun i _ _=>len - (intOf i).toNat)
  case atStart=>exact ⟨0,Nat.zero_le _,rfl,fun j hj=>by omega,HX0.out⟩
  case round =>
   obtain ⟨k,hk,rfl,hn,hx⟩:=hrel
   have HN:=Lib.hid hn
   have HX:=Lib.hid hx
   clear hn hx
   by_cases hlt:k < len
   ·obtain ⟨f,hf⟩:∃ f,f=l.getD k default:=⟨_,rfl⟩
    obtain ⟨b,off,rfl,hb,c0,c1,c2,c3,c4,c5,c6,c7,c8,hcd⟩:=(HA.out.ext HX.out).at_ (k:=k) (by rw [← HLn.out]; exact hlt) hf
    obtain ⟨q,hq⟩:∃ q,q=unsoundS f.code:=⟨_,rfl⟩
    have HQ:=Lib.hid hq
    have HCD:=Lib.hid hcd
    have HF:=Lib.hid hf
    have HSN:Hid (Sane f.code):=sane_of HV.out (by rw [hf]; exact getD_mem (by rw [← HLn.out]; exact hlt))
    clear hf hcd hq
    go_wp2_with (first | (go_at_call 31; refine (runsound_any f _ (HCD.out.ext exL) HSN.out).mono ?_; rw [← HQ.out]; rintro r w2 ⟨rfl,x2⟩))
    case roundEnd =>
     have h9:q < 0:=by assumption
     refine ⟨⟨k + 1,by omega,by go_num,fun j hj=>?_,HX.out.trans exL⟩,by simp [intOf]; omega⟩
     rcases Nat.lt_or_ge j k with h | h
     ·exact HN.out j h
     ·obtain rfl:j=k:=by omega
      rw [← HF.out,← HQ.out]; exact h9
    all_goals
     have h9:0 ≤ q:=by assumption
     have e:=check_bad HV.out (k:=k) (by rw [← HLn.out]; exact hlt) (by rw [← HF.out,← HQ.out]; exact h9) HN.out
     rw [← HF.out,← HQ.out] at e
     go_ret3
     exact ⟨ret_i3c (by rw [e]) (by rw [e]) (by rw [e]),HX.out.trans exL⟩
   ·go_wp2_with fail
    go_ret3
    have e:=check_good HV.out (fun j hj=>HN.out j (by have:=HLn.out; omega))
    exact ⟨ret_i3c (by rw [e]) (by rw [e]) (by rw [e]),HX.out⟩
 ·obtain ⟨v,hvv⟩:∃ v,v=validS l:=⟨_,rfl⟩
  have hb:(v != 0)=true:=by rw [bne_iff_ne,hvv]; exact hv
  have HV:=Lib.hid hvv
  have HN:=Lib.hid hv
  have HCV:=Lib.hid (rValidate_any A cap l w hA hl hc hfl)
  clear hvv hv hA hfl hc
  go_enter Tryz.func11,Tryz.ntmps11
  go_wp2_with (first | (go_at_call 30; refine (HCV.out).mono ?_; rw [← HV.out]; rintro r w1 ⟨rfl,x1⟩))
  go_ret3
  exact ⟨ret_i3c (by unfold checkE; rw [if_neg HN.out]) (by unfold checkE; rw [if_neg HN.out]) (by unfold checkE; rw [if_neg HN.out,HV.out]),exL⟩
end Go.Proofs.YtcoookehfhhhdaaGreatDoor.c
