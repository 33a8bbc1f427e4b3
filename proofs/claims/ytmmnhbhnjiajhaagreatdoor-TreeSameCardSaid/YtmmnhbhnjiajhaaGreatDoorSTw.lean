/- A number token with its type; a type at a place; a number of a case. Conditions: the parser stands as PS says. What holds of all that the grammar reads: by one induction; it goes forward. No condition. What is read ends in no comma. -/
import Derived.Test.YtmmnhbhnjiajhaaGreatDoorSTt
import Derived.Test.YtmmnhbhnjiajhaaGreatDoorSTs
namespace Go.Proofs.YtmmnhbhnjiajhaaGreatDoor.c
open Go.RowKit
set_option linter.unusedVariables false
set_option maxRecDepth 100000
set_option maxHeartbeats 3200000
set_option linter.unusedSimpArgs false
theorem Tx.mem {C:Cx} {a:Nat} (h:a < C.L.length):C.L.getD a default ∈ C.L:=by rw [List.getD,List.getElem?_eq_getElem h]; exact List.getElem_mem h
theorem lit_text {C:Cx} {a:Nat} (h:kd_ C.L a=1):a < C.L.length∧∃ c r,(tx C.L a).data.toList=c :: r∧isDg c=true:=by
 have hlt:a < C.L.length:=by
  rcases Nat.lt_or_ge a C.L.length with h1 | h1
  ·exact h1
  ·rw [kd_end h1] at h; cases h
 have h2:=(C.wf _ (Tx.mem hlt)).2.2.1 (by rw [← kd_at hlt]; exact h)
 rw [← tx_at hlt] at h2
 refine ⟨hlt,?_⟩
 cases e:(tx C.L a).data.toList with
 | nil=>rw [e] at h2; cases h2
 | cons c r=>rw [e] at h2; exact ⟨c,r,rfl,by simpa using h2⟩
def dgL:List UInt8:=[48,49,50,51,52,53,54,55,56,57]
theorem digs_dg (c:UInt8):dgL.contains c=isDg c:=by
 have h:∀ n:Fin 256,dgL.contains (UInt8.ofNat n.val)=isDg (UInt8.ofNat n.val):=by decide +kernel
 have:=h ⟨c.toNat,c.toNat_lt⟩
 simpa using this
theorem trim_eq (l:List UInt8):Lib.trimLeftS l dgL=l.dropWhile isDg:=by
 unfold Lib.trimLeftS
 congr 1
 funext c
 exact digs_dg c
theorem parts_eq (s:ByteArray):∃ d r:ByteArray,d.data.toList=s.data.toList.takeWhile isDg∧r=⟨(s.data.toList.dropWhile isDg).toArray⟩∧d.size + r.size=s.size∧s.extract 0 d.size=d:=by
 have hl:(s.data.toList.takeWhile isDg) ++ (s.data.toList.dropWhile isDg)=s.data.toList:=List.takeWhile_append_dropWhile
 have hz:=congrArg List.length hl
 rw [List.length_append] at hz
 refine ⟨⟨(s.data.toList.takeWhile isDg).toArray⟩,_,rfl,rfl,?_,?_⟩
 ·rw [Lib.size_eq,Lib.size_eq,Lib.size_eq s]
  simpa using hz
 ·refine ByteArray.ext (Array.toList_inj.1 ?_)
  have h1:(⟨(s.data.toList.takeWhile isDg).toArray⟩:ByteArray).size=(s.data.toList.takeWhile isDg).length:=by rw [Lib.size_eq]
  rw [h1]
  simp only [ByteArray.data_extract,Array.toList_extract,List.extract_eq_take_drop,Nat.sub_zero,List.drop_zero]
  exact (congrArg (List.take _) hl.symm).trans List.take_left
theorem dg_len {l:List UInt8} (h:digS l=true):l.length ≤ 10:=by
 unfold digS at h
 simp at h
 exact h.1
theorem takeWhile_all (l:List UInt8):(l.takeWhile isDg).all isDg=true:=by
 induction l with
 | nil=>rfl
 | cons c r ih =>
  rw [List.takeWhile_cons]
  split
  ·rename_i h
   rw [List.all_cons,h,ih]
   rfl
  ·rfl
def nuC (t:Ty) (n:Int):Array Value:=#[.int .i64 0,.int .i64 t.base,.int .i64 t.bits,.string t.name,.bool t.opt,.bool t.err,.string ⟨#[]⟩,.int .i64 n,.slice none 0 0,.slice none 0 0]
theorem built_nu (t:Ty) (n:Int):Tryz.prog.built 36 [(0,.int .i64 0),(1,.agg (tyA t)),(3,.int .i64 n)]=some (nuC t n):=by kernel_rfl
theorem nv_nu {V:Vw} (t:Ty) (n:Int):Nv V 0 (.ex 0 t ⟨#[]⟩ n .nil .nil .nil) (nuC t n):=⟨⟨rfl,.slice none 0 0,.slice none 0 0,[],rfl,Sl.nil V none 0 0,Sl.nil V none 0 1,rfl⟩,rfl⟩
theorem literal_any {C:Cx} {a:Nat} {w:World} (h:PS C a w) (neg:Bool) (hk:kd_ C.L a=1):Calls Tryz.prog 240 #[Pp C,.bool neg] w (Out C w 0 (thnO (litS (tx C.L a) neg) a fun x=>some (.ok x (a + 1)))):=by
 obtain ⟨hlt,c0,r0,htx,hc0⟩:=lit_text hk
 have hsz:(tx C.L a).size ≤ 4000:=PS.tx_size
 have HP:=Lib.hid h
 have hm:=h.lt
 have HTL:=Lib.hid (trimLeft_any (tx C.L a))
 obtain ⟨d,r,hd,hr,hdr,hex⟩:=parts_eq (tx C.L a)
 have hd0:0 < d.size:=by
  rw [Lib.size_eq,hd,htx,List.takeWhile_cons,hc0]
  simp
 rw [show Lib.trimLeftS (tx C.L a).data.toList [48,49,50,51,52,53,54,55,56,57]=(tx C.L a).data.toList.dropWhile isDg from trim_eq _,← hr] at HTL
 obtain ⟨rt,ok,hrt⟩:∃ rt ok,baseS r=(rt,ok):=⟨_,_,rfl⟩
 obtain ⟨dg,hdg⟩:∃ dg,digS d.data.toList=dg:=⟨_,rfl⟩
 obtain ⟨dv,hdv⟩:∃ dv,decS d.data.toList=dv:=⟨_,rfl⟩
 obtain ⟨n,hn⟩:∃ n:Int,(if neg=true then -(dv:Int) else dv)=n:=⟨_,rfl⟩
 obtain ⟨nm,hnm⟩:∃ nm,isNumS rt n=nm:=⟨_,rfl⟩
 have HLIT:Hid (thnO (litS (tx C.L a) neg) a (fun x=>some (.ok x (a + 1)))=if ok=true∧dg=true∧(rt.base=2 ∨ rt.base=3 ∨ rt.base=5)∧nm=true then some (.ok (.ex 0 rt ⟨#[]⟩ n .nil .nil .nil) (a + 1)) else some (.bad a)):=by
  unfold Hid litS
  simp only []
  rw [← hd,← hr,hrt,hdv,hn,hdg,hnm]
  split <;> rfl
 have HBA:=Lib.hid (fun w1 h1=>base_any r w1 (by omega) h1)
 rw [hrt] at HBA
 unfold tyA at HBA
 have HDG:=Lib.hid (fun w1=>isDigits_any d w1 hd0)
 rw [hdg] at HDG
 have HDE:Hid (dg=true → ∀ w1,Calls Tryz.prog 259 #[.string d] w1 fun e w'=>e=.returned (.int .i64 dv)∧Ext w1 w'):=fun h9 w1=>by
  rw [← hdv]; exact decimal_any d w1 (by rw [hd]; exact takeWhile_all _) (by rw [Lib.size_eq]; exact dg_len (hdg.trans h9))
 have HDV:Hid (dg=true → dv < 10000000000):=fun h9=>by
  rw [← hdv,hd]; exact decS_small (takeWhile_all _) (by rw [← hd]; exact dg_len (hdg.trans h9))
 have HNM:=Lib.hid (isNum_any rt n)
 rw [hnm] at HNM
 have HG:=Lib.hid C.laid
 have hw1:IntKind.i64.wrap (((tx C.L a).size:Int) - (r.size:Int))=(d.size:Int):=by rw [show ((tx C.L a).size:Int) - (r.size:Int)=(d.size:Int) by omega]; exact IntWalk.i64_in _ (by omega)
 have B0:Hid (Blk (w.alloc (.cells zEx 36)) w.heap.size 36 zEx):=Blk.new w _ zEx
 have HNN:=Lib.hid hn
 clear h hk htx hc0 hd hr hrt hdg hn hdv hnm hd0
 cases ok
 ·have HB:=Lib.hid (HLIT.out.trans (if_neg (fun h9=>by cases h9.1)))
  clear HLIT
  go_enter Tryz.func240,Tryz.ntmps240
  go_wp2_with (first
   | (go_at_call 119; refine (peek_any (HP.out.to ((Ext.refl w).alloc _))).mono ?_; rintro r1 w1 ⟨rfl,x1⟩)
   | (go_at_call 257; refine (HTL.out _).mono ?_; rintro r2 w2 ⟨rfl,x2⟩)
   | (go_at_call 170; refine (HBA.out _ ((HG.out.ext HP.out.ext).ext (((Ext.refl w).alloc _).trans (x1.trans x2)))).mono ?_; rintro r3 w3 ⟨rfl,x3⟩; have X3:Hid (Ext w w3):=((Ext.refl w).alloc _).trans (x1.trans (x2.trans x3)))
   | (go_at_call 169; refine (fail_any (HP.out.to (X3.out.alloc _))).mono ?_; rintro r5 w5 ⟨rfl,rfl⟩))
  exact ⟨rfl,fin_bad (HP.out.mv (X3.out.alloc _)) HB.out⟩
 cases dg
 ·have HB:=Lib.hid (HLIT.out.trans (if_neg (fun h9=>by cases h9.2.1)))
  clear HLIT
  go_enter Tryz.func240,Tryz.ntmps240
  go_wp2_with (first
   | (go_at_call 119; refine (peek_any (HP.out.to ((Ext.refl w).alloc _))).mono ?_; rintro r1 w1 ⟨rfl,x1⟩)
   | (go_at_call 257; refine (HTL.out _).mono ?_; rintro r2 w2 ⟨rfl,x2⟩)
   | (go_at_call 170; refine (HBA.out _ ((HG.out.ext HP.out.ext).ext (((Ext.refl w).alloc _).trans (x1.trans x2)))).mono ?_; rintro r3 w3 ⟨rfl,x3⟩; have X3:Hid (Ext w w3):=((Ext.refl w).alloc _).trans (x1.trans (x2.trans x3)))
   | (go_at_call 258; (try rw [hex]); refine (HDG.out _).mono ?_; rintro r4 w4 ⟨rfl,rfl⟩)
   | (go_at_call 169; refine (fail_any (HP.out.to (X3.out.alloc _))).mono ?_; rintro r5 w5 ⟨rfl,rfl⟩))
  exact ⟨rfl,fin_bad (HP.out.mv (X3.out.alloc _)) HB.out⟩
 have HDD:=Lib.hid (HDE.out rfl)
 clear HDE
 by_cases hb:rt.base=2 ∨ rt.base=3 ∨ rt.base=5
 ·have HL2:Hid (thnO (litS (tx C.L a) neg) a (fun x=>some (.ok x (a + 1)))=if nm=true then some (.ok (.ex 0 rt ⟨#[]⟩ n .nil .nil .nil) (a + 1)) else some (.bad a)):=by
   refine HLIT.out.trans ?_
   cases nm
   ·rw [if_neg (fun h9=>by cases h9.2.2.2),if_neg (by decide)]
   ·rw [if_pos ⟨rfl,rfl,hb,rfl⟩,if_pos rfl]
  have hb1:(rt.base == 2 || rt.base == 3)=true ∨ (rt.base != 5)=false:=by
   rcases hb with h | h | h
   ·exact .inl (by simp [h])
   ·exact .inl (by simp [h])
   ·exact .inr (by simp [h])
  have HZE:Hid ((Tryz.prog.info? 36).map (·.size)=some 10):=by unfold Hid; kernel_rfl
  have HZT:Hid ((Tryz.prog.info? 32).map (·.size)=some 5):=by unfold Hid; kernel_rfl
  have hwi:IntKind.i64.wrap ((a:Int) + 1)=(a:Int) + 1:=IntWalk.i64_in _ (by have:=C.len; omega)
  clear HLIT hb
  have hdv:=HDV.out rfl
  have hw2:IntKind.i64.wrap (-(dv:Int))=-(dv:Int):=IntWalk.i64_in _ (by omega)
  have hng:neg=true → n=-(dv:Int):=fun h=>by rw [← HNN.out,h]; rfl
  have hps:neg=false → n=(dv:Int):=fun h=>by rw [← HNN.out,h]; rfl
  clear HNN
  rcases hb1 with hb | hb <;> cases neg <;> cases nm
  all_goals
   first
    | (have hn:=hps rfl; subst hn)
    | (have hn:=hng rfl; subst hn)
   first
    | have HB:=Lib.hid (HL2.out.trans (if_pos rfl))
    | have HB:=Lib.hid (HL2.out.trans (if_neg (fun h=>by cases h)))
   clear HL2 hng hps HDV
   go_enter Tryz.func240,Tryz.ntmps240
   go_wp2_with (first
    | (go_at_call 119; refine (peek_any (HP.out.to ((Ext.refl w).alloc _))).mono ?_; rintro r1 w1 ⟨rfl,x1⟩)
    | (go_at_call 257; refine (HTL.out _).mono ?_; rintro r2 w2 ⟨rfl,x2⟩)
    | (go_at_call 170; refine (HBA.out _ ((HG.out.ext HP.out.ext).ext (((Ext.refl w).alloc _).trans (x1.trans x2)))).mono ?_; rintro r3 w3 ⟨rfl,x3⟩; have X3:Hid (Ext w w3):=((Ext.refl w).alloc _).trans (x1.trans (x2.trans x3)); have X3a:Hid (Ext (w.alloc (.cells zEx 36)) w3):=x1.trans (x2.trans x3))
    | (go_at_call 258; (try rw [hex]); refine (HDG.out _).mono ?_; rintro r4 w4 ⟨rfl,rfl⟩)
    | (go_at_call 94; refine (isNumbers_any _ _).mono ?_; rintro r6 w6 ⟨rfl,rfl⟩)
    | (go_at_call 259; (try rw [hex]); refine (HDD.out _).mono ?_; rintro r7 w7 ⟨rfl,x7⟩; have y7:=x7.facts; have z7:=x7.z0)
    | (go_at_call 146; refine (HNM.out _ (((HG.out.ext HP.out.ext).ext (X3.out.alloc _)).ext x7)).mono ?_; rintro r8 w8 ⟨rfl,x8⟩; have X8:Hid (Ext w w8):=(X3.out.alloc _).trans (x7.trans x8); have hb8:=(B0.out.ext X3a.out).alloc (.cells (tyA rt) 32) |>.ext (x7.trans x8); have HB8:=Lib.hid hb8; have HT8:Hid (Blk w8 w3.heap.size 32 (tyA rt)):=(Blk.new w3 _ _).ext (x7.trans x8); obtain ⟨hm8,c80,c81,f8⟩:=(HP.out.to X8.out).facts; have P9:=Lib.hid ((HP.out.to X8.out).step hlt); have HB9:=Lib.hid (HB8.out.px P9.out.px (by omega)); have HT9:=Lib.hid (HT8.out.px P9.out.px (by have:=X3.out.size; omega)))
    | (go_at_call 169; refine (fail_any (HP.out.to X8.out)).mono ?_; rintro r5 w5 ⟨rfl,rfl⟩)
    | ((with_reducible show wpList _ _ _ (Oper.mk (some 73) (.load 32 (.tmp 7)) _ _ _ _ :: _) _ _); refine wpList_ldb rfl _ _ rfl w3.heap.size _ (tyA rt) rfl HT9.out _ Tryz.underlying32 rfl HZT.out ?_)
    | ((with_reducible show wpList _ _ _ (Oper.mk (some 75) (.build _ _) _ _ _ _ :: _) _ _); first | refine wpList_bld rfl _ _ rfl [(0,.int .i64 0),(1,.agg (tyA rt)),(3,.int .i64 (dv:Int))] (by simp only [List.map_toArray,List.map_cons,List.map_nil]; rfl) (built_nu rt _) ?_ | refine wpList_bld rfl _ _ rfl [(0,.int .i64 0),(1,.agg (tyA rt)),(3,.int .i64 (-(dv:Int)))] (by simp only [List.map_toArray,List.map_cons,List.map_nil]; rfl) (built_nu rt _) ?_)
    | ((with_reducible show wpList _ _ _ (Oper.mk none (.store 36 (.tmp 4) _) _ _ _ _ :: _) _ _); refine wpList_store_row rfl _ _ _ rfl w.heap.size rfl _ zEx _ HB9.out rfl rfl (nv_nu (V:=wv w) _ _).one HZE.out ?_))
  all_goals first
   | exact ⟨rfl,fin_bad (HP.out.mv X8.out) HB.out⟩
   | (refine bodyPost_ret (results_cell_row rfl _ _ w.heap.size _ (nuC rt _) (0,0) _ rfl (HB9.out.row _) Tryz.underlying36 rfl HZE.out) rfl ?_; exact fin_row ((HP.out.mv X8.out).trans P9.out) (Nat.le_refl _) hm (nv_nu (V:=vp (fun i=>w.heap.size < i) _) _ _) (fun i hi _=>⟨by omega,by omega⟩) HB.out)
 ·have HB:=Lib.hid (HLIT.out.trans (if_neg (fun h9=>hb h9.2.2.1)))
  have hb1:(rt.base == 2 || rt.base == 3)=false:=by
   rw [Bool.or_eq_false_iff,beq_eq_false_iff_ne,beq_eq_false_iff_ne]
   exact ⟨fun h=>hb (.inl h),fun h=>hb (.inr (.inl h))⟩
  have hb2:(rt.base != 5)=true:=by simpa using fun h=>hb (.inr (.inr h))
  have HB1:=Lib.hid hb1
  clear HLIT hb hb1
  go_enter Tryz.func240,Tryz.ntmps240
  go_wp2_with (first
   | (go_at_call 119; refine (peek_any (HP.out.to ((Ext.refl w).alloc _))).mono ?_; rintro r1 w1 ⟨rfl,x1⟩)
   | (go_at_call 257; refine (HTL.out _).mono ?_; rintro r2 w2 ⟨rfl,x2⟩)
   | (go_at_call 170; refine (HBA.out _ ((HG.out.ext HP.out.ext).ext (((Ext.refl w).alloc _).trans (x1.trans x2)))).mono ?_; rintro r3 w3 ⟨rfl,x3⟩; have X3:Hid (Ext w w3):=((Ext.refl w).alloc _).trans (x1.trans (x2.trans x3)))
   | (go_at_call 258; (try rw [hex]); refine (HDG.out _).mono ?_; rintro r4 w4 ⟨rfl,rfl⟩)
   | (go_at_call 94; refine (isNumbers_any _ _).mono ?_; rw [HB1.out]; rintro r6 w6 ⟨rfl,rfl⟩)
   | (go_at_call 169; refine (fail_any (HP.out.to (X3.out.alloc _))).mono ?_; rintro r5 w5 ⟨rfl,rfl⟩))
  exact ⟨rfl,fin_bad (HP.out.mv (X3.out.alloc _)) HB.out⟩
def Po (φ:Nd → Nat → Prop) (r:Option Rs):Prop:=∀ x c,r=some (.ok x c) → φ x c
section
variable {φ ψ:Nd → Nat → Prop} {L:List Tok}
theorem Po.ok {x:Nd} {c:Nat} (h:φ x c):Po φ (some (.ok x c)):=fun _ _ e=>by cases e; exact h
theorem Po.bad (c:Nat):Po φ (some (.bad c)):=fun _ _ e=>by cases e
theorem Po.thn {p:Option Rs} {f:Nd → Nat → Option Rs} (h:Po ψ p) (k:∀ x b,ψ x b → Po φ (f x b)):Po φ (thn p f):=fun x c e=>by
 rcases thn_some e with ⟨b,_,h2⟩ | ⟨y,b,h1,h2⟩
 ·cases h2
 ·exact k y b (h y b h1) x c h2
theorem Po.thnT {α:Type} {o:Except Nat (α × Nat)} {f:α → Nat → Option Rs} (k:∀ v b,o=.ok (v,b) → Po φ (f v b)):Po φ (thnT o f):=fun x c e=>by
 unfold Go.Proofs.YtmmnhbhnjiajhaaGreatDoor.c.thnT at e
 split at e
 ·cases e
 ·exact k _ _ rfl x c e
theorem Po.thnO {o:Option Nd} {a:Nat} {f:Nd → Option Rs} (k:∀ y,o=some y → Po φ (f y)):Po φ (thnO o a f):=fun x c e=>by
 unfold Go.Proofs.YtmmnhbhnjiajhaaGreatDoor.c.thnO at e
 split at e
 ·cases e
 ·exact k _ rfl x c e
theorem Po.ite {c:Prop} [Decidable c] {p q:Option Rs} (h:c → Po φ p) (k:¬ c → Po φ q):Po φ (if c then p else q):=by
 by_cases e:c
 ·rw [if_pos e]; exact h e
 ·rw [if_neg e]; exact k e
theorem Po.wnt {a:Nat} {s:ByteArray} {r:Option Rs} (h:tx L a=s → Po φ r):Po φ (wnt L a s r):=Po.ite h fun _=>Po.bad _
theorem Po.nam {a:Nat} {r:Option Rs} (h:isW L a=true → Po φ r):Po φ (nam L a r):=Po.ite h fun _=>Po.bad _
theorem Po.mono {r:Option Rs} (h:Po ψ r) (k:∀ x c,ψ x c → φ x c):Po φ r:=fun x c e=>k x c (h x c e)
theorem gram_post (Φ:Nt → Nat → Nd → Nat → Prop) (hs:∀ P,(∀ t a,Po (Φ t a) (P t a)) → ∀ t a,Po (Φ t a) (stepG L P t a)) (t:Nt) (a:Nat):Po (Φ t a) (gram L t a):=fun x c e=>by
 have h:∀ n t a,Po (Φ t a) (gr L n t a):=fun n=>by
  induction n with
  | zero=>intro t a x c e; cases e
  | succ n ih=>exact hs _ ih
 obtain ⟨n,hn⟩:=gram_iff.1 e
 exact h n t a x c hn
theorem typS_lt {a:Nat} {e o v b t n:Bool} {ty:Ty} {c:Nat} (h:typS L a e o v b t n=.ok (ty,c)):a < c:=by
 unfold typS at h
 simp only at h
 repeat' split at h
 all_goals first | (cases h; done) | (have h2:=(Prod.mk.inj (Except.ok.inj h)).2; omega)
theorem cnumS_lt {a:Nat} {lo n:Int} {c:Nat} (h:cnumS L a lo=.ok (n,c)):a < c:=by
 unfold cnumS at h
 simp only at h
 repeat' split at h
 all_goals first | (cases h; done) | (have h2:=(Prod.mk.inj (Except.ok.inj h)).2; omega)
theorem cnumS_if {b:Nat} {s:ByteArray} {lo n:Int} {c:Nat} (h:(if tx L b=s then cnumS L (b + 1) lo else .ok (lo,b))=.ok (n,c)):b ≤ c:=by
 split at h
 ·have:=cnumS_lt h; omega
 ·cases h; exact Nat.le_refl _
theorem gram_le (t:Nt) (a:Nat):Po (fun _ c=>a ≤ c) (gram L t a):=by
 refine gram_post (fun _ a _ c=>a ≤ c) (fun P hP t a=>?_) t a
 have hc:∀ t b,a ≤ b → Po (fun _ c=>a ≤ c) (P t b):=fun t b h=>(hP t b).mono fun _ _ h2=>Nat.le_trans h h2
 cases t <;> simp only [stepG,unrS,primS,stmS,varS,loopS,retS,choiceS,cssS,parS,valS,builtinS] <;>
  repeat' first
   | exact Po.bad _
   | refine Po.ite (fun _=>?_) (fun _=>?_)
   | refine Po.wnt fun _=>?_
   | refine Po.nam fun _=>?_
   | refine Po.thnO fun _ _=>?_
   | (refine Po.thn (ψ:=fun _ c=>a ≤ c) (hc _ _ (by omega)) fun _ _ _=>?_)
   | (refine Po.thnT fun _ _ h=>?_; have:=typS_lt h)
   | (refine Po.thnT fun _ _ h=>?_; have:=cnumS_lt h)
   | (refine Po.thnT fun _ _ h=>?_; have:=cnumS_if h)
   | exact Po.ok (by omega)
   | exact hc _ _ (by omega)
end
def posT:Nt → Bool
 | .ops _ _ _ | .post _ | .css _=>false
 | _=>true
def Cm (L:List Tok) (t:Nt) (a c:Nat):Prop:=a ≤ c∧(posT t=true → a < c)∧(c=a ∨ tx L (c - 1) ≠ ⟨#[44]⟩)
section
variable {L:List Tok}
theorem isW_comma {b:Nat} (h:isW L b=true):tx L b ≠ ⟨#[44]⟩:=fun e=>by
 unfold isW at h
 rw [e] at h
 have:isNameS ⟨#[44]⟩=false:=by decide +kernel
 rw [this] at h
 simp at h
theorem cm_ok {a b:Nat} {t:Nt} {s:ByteArray} (h:a ≤ b) (e:tx L b=s) (hs:s ≠ ⟨#[44]⟩):Cm L t a (b + 1):=⟨by omega,fun _=>by omega,.inr (by rw [Nat.add_sub_cancel,e]; exact hs)⟩
theorem cm_nm {a b:Nat} {t:Nt} (h:a ≤ b) (e:tx L b ≠ ⟨#[44]⟩):Cm L t a (b + 1):=⟨by omega,fun _=>by omega,.inr (by rw [Nat.add_sub_cancel]; exact e)⟩
theorem cm_thn {a b c:Nat} {t t2:Nt} (h:a ≤ b) (hp:posT t=true → a < b ∨ posT t2=true) (hb:b=a ∨ tx L (b - 1) ≠ ⟨#[44]⟩ ∨ posT t2=true) (k:Cm L t2 b c):Cm L t a c:=by
 obtain ⟨k1,k2,k3⟩:=k
 refine ⟨by omega,fun q=>?_,?_⟩
 ·rcases hp q with h | h
  ·omega
  ·have:=k2 h; omega
 ·rcases k3 with rfl | k3
  ·rcases hb with rfl | hb | hb
   ·exact .inl rfl
   ·exact .inr hb
   ·have:=k2 hb; omega
  ·exact .inr k3
theorem cm_of {a a' b:Nat} {t t':Nt} (h:a ≤ a') (hc:Cm L t' a' b) (hp:a' < b):Cm L t a b:=⟨by omega,fun _=>by omega,.inr (hc.2.2.resolve_left (by omega))⟩
theorem gram_comma (hwf:∀ b,kd_ L b=1 → tx L b ≠ ⟨#[44]⟩) (t:Nt) (a:Nat):Po (fun _ c=>Cm L t a c) (gram L t a):=by
 refine gram_post (fun t a _ c=>Cm L t a c) (fun P hP t a=>?_) t a
 cases t <;> simp only [stepG,unrS,primS,stmS,varS,loopS,retS,choiceS,cssS,parS,valS,builtinS] <;>
  repeat' first
   | exact Po.bad _
   | refine Po.ite (fun _=>?_) (fun _=>?_)
   | refine Po.wnt fun _=>?_
   | refine Po.nam fun _=>?_
   | refine Po.thnO fun _ _=>?_
   | (refine Po.thn (hP _ _) fun _ _ hc=>?_; have:=hc.1; try have:=hc.2.1 rfl)
   | (refine Po.thnT fun _ _ h=>?_; have:=typS_lt h)
   | (refine Po.thnT fun _ _ h=>?_; have:=cnumS_lt h)
   | (refine Po.thnT fun _ _ h=>?_; have:=cnumS_if h)
   | exact Po.ok (cm_ok (by omega) (by assumption) (by decide))
   | exact Po.ok (cm_nm (by omega) (isW_comma (by assumption)))
   | exact Po.ok (cm_nm (by omega) (hwf _ (by assumption)))
   | exact Po.ok ⟨Nat.le_refl _,(fun h=>nomatch h),.inl rfl⟩
   | exact Po.ok (cm_of (hc:=hc) (h:=by omega) (hp:=by omega))
   | exact hP _ _
   | exact (hP _ _).mono fun _ _ k=>cm_thn (by omega) (fun _=>.inr rfl) (.inr (.inr rfl)) k
   | exact (hP _ _).mono fun _ _ k=>cm_thn (by omega) (fun _=>.inl (by omega)) (.inr (.inl (hc.2.2.resolve_left (by omega)))) k
   | exact (hP _ _).mono fun _ _ k=>cm_thn (by omega) (fun h=>nomatch h) (.inr (.inl (hc.2.2.resolve_left (by omega)))) k
   | exact (hP _ _).mono fun _ _ k=>cm_thn (by omega) (fun _=>.inl (by omega)) (.inr (.inl (hwf (a + 1) (by first | assumption | exact And.right (by assumption))))) k
   | exact (hP _ _).mono fun _ _ k=>cm_thn (by omega) (fun h=>nomatch h) (.inr (.inl (by rw [Nat.add_sub_cancel,(by assumption:tx L a=_)]; decide))) k
end
end Go.Proofs.YtmmnhbhnjiajhaaGreatDoor.c
