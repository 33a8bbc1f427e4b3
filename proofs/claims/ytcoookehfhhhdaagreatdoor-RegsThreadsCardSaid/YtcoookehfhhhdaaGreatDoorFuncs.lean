/- Contracts of the library's IndexFunc and ContainsFunc at the types of this program. One round of going through code, told plainly; the queue's first. No program in sight. Contracts of code.isFunc, size, Validate, Size, Find. The table strings.asciiSpace holds what its text lays; sizes are bounded. Contracts of code.size, Validate, Size, Find. The table strings.asciiSpace holds what its text lays; sizes are bounded. -/
import Derived.Test.YtcoookehfhhhdaaGreatDoorDataF
import Derived.Test.YtcoookehfhhhdaaGreatDoorReach
import Derived.Test.YtcoookehfhhhdaaGreatDoorShapeB
import Derived.Test.YtcoookehfhhhdaaGreatDoorRval
namespace Go.Proofs.YtcoookehfhhhdaaGreatDoor.c
open Go.RowKit
set_option linter.unusedVariables false
set_option maxRecDepth 100000
set_option maxHeartbeats 1600000
set_option linter.unusedSimpArgs false
theorem indexFuncC_any (A:Option Addr) (n cap:Nat) (K:Nat) (caps:Array Value) (w:World) (hn:n ≤ 9223372036854775807)
  (c:Nat → Nat → Value) (hA:At w A n 9 c) (hK:Enters K) (p:Nat → Bool)
  (hp:∀ i w1,i < n → Ext w w1 → Calls Tryz.prog K (#[.agg #[c i 0,c i 1,c i 2,c i 3,c i 4,c i 5,c i 6,c i 7,c i 8]] ++ caps) w1 fun e w2=>e=.returned (.bool (p i))∧Ext w1 w2) :
  Calls Tryz.prog 167 #[.slice A n cap,.func (.func K) #[] caps] w fun e w'=>e=.returned (.int .i64 (findI p n))∧Ext w w':=by
 have HP:=Lib.hid hp; clear hp
 go_enter Tryz.func167,Tryz.ntmps167
 go_wp2
 go_loopw [5,8] (fun _ i wr=>∃ k:Nat,k ≤ n∧i=.int .i64 k∧(∀ j,j < k → p j=false)∧Ext w wr) (fun _ i _=>n - (intOf i).toNat)
 case atStart=>exact ⟨0,Nat.zero_le _,rfl,by omega,Ext.refl _⟩
 case round =>
  obtain ⟨k,hk,rfl,hnone,hx⟩:=hrel
  have HN:=Lib.hid hnone; clear hnone
  by_cases hlt:k < n
  ·obtain ⟨b,off,rfl,hb,c0,c1,c2,c3,c4,c5,c6,c7,c8⟩:=(hA.ext hx).nine hlt
   go_wp2_with fail
   have HP1:=Lib.hid (HP.out k wr hlt hx)
   simp only [hK _ _]
   go_wp2_with fail
   refine (HP1.out).mono ?_
   rintro e w1 ⟨rfl,x1⟩
   cases hpk:p k
   ·go_wp2_with fail
    go_roundw
    case rel=>exact ⟨k + 1,by omega,by go_num,(fun j hj=>by rcases Nat.lt_or_ge j k with h | h; exact HN.out j h; obtain rfl:j=k:=(by omega); exact hpk),hx.trans x1⟩
    case measure=>simp [intOf]; omega
   ·go_wp2_with fail
    go_ret
    exact ⟨ret_int (findI_hit hlt hpk HN.out).symm,hx.trans x1⟩
  ·go_wp2_with fail
   go_ret
   exact ⟨ret_int (findI_none (fun j hj=>HN.out j (by omega))).symm,hx⟩
def anyI (p:Nat → Bool) (n:Nat):Bool:=decide (0 ≤ findI p n)
theorem anyI_iff {p:Nat → Bool} {n:Nat}:anyI p n=true ↔ ∃ k,k < n∧p k=true:=by
 unfold anyI
 rw [decide_eq_true_eq]
 rcases findI_cases p n with ⟨h,hn⟩ | ⟨k,h,hk,hp,_⟩
 ·rw [h]
  constructor
  ·intro h; omega
  ·rintro ⟨k,hk,hp⟩; rw [hn k hk] at hp; cases hp
 ·rw [h]
  exact ⟨fun _=>⟨k,hk,hp⟩,fun _=>by omega⟩
theorem containsFuncC_any (A:Option Addr) (n cap:Nat) (K:Nat) (caps:Array Value) (w:World) (hn:n ≤ 9223372036854775807)
  (c:Nat → Nat → Value) (hA:At w A n 9 c) (hK:Enters K) (p:Nat → Bool)
  (hp:∀ i w1,i < n → Ext w w1 → Calls Tryz.prog K (#[.agg #[c i 0,c i 1,c i 2,c i 3,c i 4,c i 5,c i 6,c i 7,c i 8]] ++ caps) w1 fun e w2=>e=.returned (.bool (p i))∧Ext w1 w2) :
  Calls Tryz.prog 126 #[.slice A n cap,.func (.func K) #[] caps] w fun e w'=>e=.returned (.bool (anyI p n))∧Ext w w':=by
 have HP:=Lib.hid hp; clear hp
 go_enter Tryz.func126,Tryz.ntmps126
 go_wp2_with fail
 refine (indexFuncC_any A n cap K caps w hn c hA hK p HP.out).mono ?_
 rintro e w1 ⟨rfl,x1⟩
 go_wp2_with fail
 go_ret
 exact ⟨rfl,x1⟩
theorem containsFuncF_any (A:Option Addr) (n cap:Nat) (K:Nat) (caps:Array Value) (w:World) (hn:n ≤ 9223372036854775807)
  (c:Nat → Nat → Value) (hA:At w A n 9 c) (hK:Enters K) (p:Nat → Bool)
  (hp:∀ i w1,i < n → Ext w w1 → Calls Tryz.prog K (#[.agg #[c i 0,c i 1,c i 2,c i 3,c i 4,c i 5,c i 6,c i 7,c i 8]] ++ caps) w1 fun e w2=>e=.returned (.bool (p i))∧Ext w1 w2) :
  Calls Tryz.prog 81 #[.slice A n cap,.func (.func K) #[] caps] w fun e w'=>e=.returned (.bool (anyI p n))∧Ext w w':=by
 have HP:=Lib.hid hp; clear hp
 go_enter Tryz.func81,Tryz.ntmps81
 go_wp2_with fail
 refine (indexFunc_any A n cap K caps w hn c hA hK p HP.out).mono ?_
 rintro e w1 ⟨rfl,x1⟩
 go_wp2_with fail
 go_ret
 exact ⟨rfl,x1⟩
theorem enters_valid1:Enters 82 := Enters.of Tryz.func82 (by kernel_rfl) (by kernel_rfl)
theorem valid1_any (f:Fc) (w:World) :
  Calls Tryz.prog 82 #[f.val] w fun e w'=>e=.returned (.bool (decide (200 < f.places)))∧Ext w w':=by
 unfold Fc.val
 go_enter Tryz.func82,Tryz.ntmps82
 go_wp2
 go_ret
 exact ⟨rfl,exA⟩

def lkMs (c:List Cd) (S T:List (Int × Int)):Nat:=2 * (66 * c.length - S.length) + T.length
theorem Grow.ms {c:List Cd} {S T S' T':List (Int × Int)} (g:Grow c S T S' T') (hS:S'.length ≤ 66 * c.length):lkMs c S' T' ≤ lkMs c S T:=by
 have:=g.len
 have:=g.le
 unfold lkMs
 omega
noncomputable def S1 (S:List (Int × Int)) (x:Cd) (h:Int):List (Int × Int):=bif leadsS x.op then addS S (x.a,leadH x h) else S
noncomputable def T1 (S T:List (Int × Int)) (x:Cd) (h:Int):List (Int × Int):=bif leadsS x.op then addT S T (x.a,leadH x h) else T
section
variable {c:List Cd} {S T:List (Int × Int)} {H:Int → Option Int} {p:Int × Int} {wg:Int}
theorem LkInv.head (v:LkInv c S (p :: T) H wg):Reach c p∧T.Nodup∧(∀ q ∈ T,q ∈ S) :=
 ⟨v.all p (v.subT p (List.mem_cons_self ..)),(List.nodup_cons.1 v.ndT).2,fun q hq=>v.subT q (List.mem_cons_of_mem _ hq)⟩
theorem LkInv.lens {T:List (Int × Int)} (s:Sane c) (v:LkInv c S T H wg):S.length ≤ 66 * c.length∧T.length ≤ 66 * c.length :=
 ⟨pts_len v.nd fun p hp=>(v.all p hp).inb s,pts_len v.ndT fun p hp=>(v.all p (v.subT p hp)).inb s⟩
theorem LkInv.grow0 (v:LkInv c S (p :: T) H wg):Grow c S T S T:=Grow.refl v.nd v.head.2.1 v.head.2.2
theorem LkInv.grow1 (v:LkInv c S (p :: T) H wg) (ok:okH (xAt c p) p.2=true):Grow c S T (S1 S (xAt c p) p.2) (T1 S T (xAt c p) p.2):=by
 unfold S1 T1
 cases h:leadsS (xAt c p).op
 ·exact v.grow0
 ·exact v.grow0.add (v.head.1.lead ok h)
theorem LkInv.bad (s:Sane c) (v:LkInv c S (p :: T) H wg) (ok:okH (xAt c p) p.2=false):LkInv c S T (updH H p.1 p.2) (minS (wr1S H p wg) p.1)∧lkMs c S T < lkMs c S (p :: T):=by
 refine ⟨v.round s v.grow0 (fun h=>by rw [ok] at h; cases h) (.inl ⟨.inl ok,rfl⟩),?_⟩
 unfold lkMs
 simp
theorem lead_in {c:List Cd} {S:List (Int × Int)} {p:Int × Int} (h:leadsS (xAt c p).op=true):((xAt c p).a,leadH (xAt c p) p.2) ∈ S1 S (xAt c p) p.2:=by
 unfold S1
 rw [h]
 exact mem_addS.2 (.inr rfl)
theorem LkInv.ms1 {S' T':List (Int × Int)} {H':Int → Option Int} {w':Int} (s:Sane c) (v:LkInv c S (p :: T) H wg) (g:Grow c S T S' T') (v':LkInv c S' T' H' w'):lkMs c S' T' < lkMs c S (p :: T):=by
 have h1:=g.ms (v'.lens s).1
 have:lkMs c S T < lkMs c S (p :: T):=by
  unfold lkMs
  simp
 omega
theorem LkInv.stop (s:Sane c) (v:LkInv c S (p :: T) H wg) (ok:okH (xAt c p) p.2=true) (go:goesS (xAt c p)=false):LkInv c (S1 S (xAt c p) p.2) (T1 S T (xAt c p) p.2) (updH H p.1 p.2) (wr1S H p wg)∧lkMs c (S1 S (xAt c p) p.2) (T1 S T (xAt c p) p.2) < lkMs c S (p :: T):=by
 have g:=v.grow1 ok
 have r:=v.round s g (fun _=>⟨fun h=>lead_in h,fun h=>by rw [go] at h; cases h⟩) (.inr ⟨fun h=>by (rcases h with h | h; rw [ok] at h; cases h; rw [go] at h; exact absurd h.1 (by decide)),rfl⟩)
 exact ⟨r,v.ms1 s g r⟩
theorem LkInv.fall (s:Sane c) (v:LkInv c S (p :: T) H wg) (ok:okH (xAt c p) p.2=true) (go:goesS (xAt c p)=true) (he:p.1 + 1=c.length):LkInv c (S1 S (xAt c p) p.2) (T1 S T (xAt c p) p.2) (updH H p.1 p.2) (minS (wr1S H p wg) p.1)∧lkMs c (S1 S (xAt c p) p.2) (T1 S T (xAt c p) p.2) < lkMs c S (p :: T):=by
 have g:=v.grow1 ok
 have r:=v.round s g (fun _=>⟨fun h=>lead_in h,fun _ h=>absurd he h⟩) (.inl ⟨.inr ⟨go,he⟩,rfl⟩)
 exact ⟨r,v.ms1 s g r⟩
theorem LkInv.on (s:Sane c) (v:LkInv c S (p :: T) H wg) (ok:okH (xAt c p) p.2=true) (go:goesS (xAt c p)=true) (he:p.1 + 1 ≠ c.length) :
  LkInv c (addS (S1 S (xAt c p) p.2) (p.1 + 1,behS (xAt c p) p.2)) (addT (S1 S (xAt c p) p.2) (T1 S T (xAt c p) p.2) (p.1 + 1,behS (xAt c p) p.2)) (updH H p.1 p.2) (wr1S H p wg) ∧
   lkMs c (addS (S1 S (xAt c p) p.2) (p.1 + 1,behS (xAt c p) p.2)) (addT (S1 S (xAt c p) p.2) (T1 S T (xAt c p) p.2) (p.1 + 1,behS (xAt c p) p.2)) < lkMs c S (p :: T):=by
 have g:=(v.grow1 ok).add (v.head.1.next ok go he)
 have r:=v.round s g (fun _=>⟨fun h=>mem_addS.2 (.inl (lead_in h)),fun _ _=>mem_addS.2 (.inr rfl)⟩) (.inr ⟨fun h=>by (rcases h with h | h; rw [ok] at h; cases h; exact he h.2),rfl⟩)
 exact ⟨r,v.ms1 s g r⟩
end
theorem Que.pop {w:World} {base:Nat} {v:Value} {p:Int × Int} {l:List (Int × Int)} (h:Que w base v (p :: l)):∃ g off cap a2 c2,v=.slice (some ⟨g,off,none⟩) (l.length + 1) cap∧g < w.heap.size∧v.ownBlock=some g ∧
  w.cell? ⟨g,off,none⟩=some (.int .i64 p.1)∧w.cell? ⟨g,off + 1,none⟩=some (.int .i64 p.2)∧(∀ w',(Instr.slice 143 v (some (.int .i64 1)) none none).run Tryz.prog w'=.ok (.slice a2 l.length c2) w') ∧
  Que w base (.slice a2 l.length c2) l∧(Value.slice a2 l.length c2).ownBlock=some g:=by
 obtain ⟨g,off,cap,rfl,hb,hg,ho,h1,h2,c0,c1,hq⟩:=h.head
 refine ⟨g,off,cap,_,_,rfl,hg,ho,c0,c1,fun w'=>?_,hq,?_⟩
 ·have hz:(Tryz.prog.info? 109).map (·.size)=some 2:=by kernel_rfl
  obtain ⟨i,hi,hs⟩:=Option.map_eq_some_iff.1 hz
  have e1:(cap=1)=(cap - 1=0):=by rw [eq_iff_iff]; omega
  have hn:(1:Int) ≤ (l.length:Int) + 1:=by omega
  by_cases hc:cap=1
  ·subst hc
   simp [Instr.slice,run_underlying Tryz.underlying143,Instr.sliceBounds,Instr.sliceBound,sizeOf,typeInfo,hi,hs,Result.andThen,asIntOf,hn]
  ·have hc':¬ cap - 1=0:=by omega
   simp [Instr.slice,run_underlying Tryz.underlying143,Instr.sliceBounds,Instr.sliceBound,sizeOf,typeInfo,hi,hs,Result.andThen,asIntOf,hn,hc,hc',Addr.add_lit]
 ·by_cases hc:cap - 1=0
  ·rw [if_pos hc]; rfl
  ·rw [if_neg hc]; rfl

theorem all_any (l:List Fc) (f:Fc):(!anyI (fun i=>!instS l f (f.code.getD i default)) f.code.length)=f.code.all (fun x=>instS l f x):=by
 rw [Bool.eq_iff_iff,Bool.not_eq_true',Bool.eq_false_iff,Ne,anyI_iff,List.all_eq_true]
 constructor
 ·intro h x hx
  obtain ⟨j,hj,rfl⟩:=List.getElem_of_mem hx
  cases hi:instS l f f.code[j]
  ·refine absurd ⟨j,hj,?_⟩ h
   rw [List.getD,List.getElem?_eq_getElem hj,Option.getD_some,hi]
   rfl
  ·rfl
 ·rintro h ⟨j,hj,hp⟩
  rw [h _ (getD_mem hj)] at hp
  cases hp
theorem isFunc_any (l:List Fc) (A:Option Addr) (cap:Nat) (f:Fc) (w:World) (g:Laid w) (hA:FcAt w A l) (hl:l.length ≤ 9223372036854775807) (hfl:f.code.length ≤ 9223372036854775807) (hC:CdAt w f.A f.code) :
  Calls Tryz.prog 83 #[.slice A l.length cap,f.val] w fun e w'=>e=.returned (.bool (fcS l f))∧Ext w w':=by
 have HA:=Lib.hid hA
 have HC:=Lib.hid hC
 clear hA hC
 have HFC:=Lib.hid (show fcS l f=(isNameS f.name && (inB f.params 0 f.places && (isRanS f.ty && (decide (1 ≤ f.code.length) && f.code.all (fun x=>instS l f x))))) from rfl)
 have HR:=Lib.hid (show isRanS f.ty=(isTypeS f.ty && decide (f.ty.base ≤ 3)) from rfl)
 have B0:FcBox ((w.alloc (.cells #[.slice A l.length cap] 22)).alloc (.cells #[.string f.name,.int .i64 f.params,.int .i64 f.places,.int .i64 f.ty.base,.int .i64 f.ty.bits,.string f.ty.name,.bool f.ty.opt,.bool f.ty.err,.slice f.A f.code.length f.cap] 48)) (w.heap.size + 1) f :=
  ⟨by have h:=Blk.new (w.alloc (.cells #[.slice A l.length cap] 22)) 48 #[.string f.name,.int .i64 f.params,.int .i64 f.places,.int .i64 f.ty.base,.int .i64 f.ty.bits,.string f.ty.name,.bool f.ty.opt,.bool f.ty.err,.slice f.A f.code.length f.cap]; rwa [size_alloc] at h⟩
 have C0:Blk ((w.alloc (.cells #[.slice A l.length cap] 22)).alloc (.cells #[.string f.name,.int .i64 f.params,.int .i64 f.places,.int .i64 f.ty.base,.int .i64 f.ty.bits,.string f.ty.name,.bool f.ty.opt,.bool f.ty.err,.slice f.A f.code.length f.cap] 48)) w.heap.size 22 #[.slice A l.length cap]:=(Blk.new _ _ _).alloc _
 have B1:=Lib.hid B0
 have C1:=Lib.hid C0
 clear B0 C0
 unfold Fc.val
 cases hT:isTypeS f.ty
 all_goals
  have HT:=Lib.hid hT
  clear hT
  go_enter Tryz.func83,Tryz.ntmps83
  go_wp2_with (first
   | (go_at_call 95; refine (isName_any f.name _ (g.ext exL)).mono ?_; rintro r w1 ⟨rfl,x1⟩; have y1:=x1.facts; have z1:=x1.z0; have zz1:w.heap.size < w1.heap.size:=(by simp at z1; omega); have zy1:w.heap.size + 1 < w1.heap.size:=(by simp at z1; omega))
   | (go_at_call 125; refine (within_any _ _ _ _).mono ?_; rintro r w' ⟨rfl,rfl⟩)
   | (go_at_call 96; refine (validate_ty f.ty _ (g.ext exL)).mono ?_; rw [HT.out]; rintro r w2 ⟨rfl,x2⟩; have y2:=x2.facts; have z2:=x2.size; have zz2:w.heap.size < w2.heap.size:=Nat.lt_of_lt_of_le zz1 z2; have zy2:w.heap.size + 1 < w2.heap.size:=Nat.lt_of_lt_of_le zy1 z2)
   | (go_at_call 126; refine (containsFuncC_any f.A f.code.length f.cap 127 _ _ hfl (fun i j=>cdC (f.code.getD i default) j) (HC.out.ext exL) enters_isFunc1 (fun i=>!instS l f (f.code.getD i default)) ?_).mono ?_))
  all_goals try (go_ret; exact ⟨ret_bool (by rw [HFC.out,HR.out,HT.out]; first | (simp [*]; done) | (simp [*]; intros; omega)),exL⟩)
  first | done | case refine_1 =>
   intro i w3 hi hx
   refine isFunc1_any l A cap f (f.code.getD i default) _ _ w3 (g.ext exL) (HA.out.ext exL) hl hfl ?_ ?_ (B1.out.ext exL)
   ·exact (C1.out.ext exL).cell 0
   ·exact (C1.out.ext exL).lt
  first | done | case refine_2 =>
   rintro e w3 ⟨rfl,x3⟩
   go_wp2_with fail
   go_ret
   refine ⟨ret_bool ?_,exL⟩
   rw [HFC.out,HR.out,HT.out]
   first | rw [all_any] | rw [show (!anyI (fun i=>!instS l f (f.code[i]?.getD default)) f.code.length)=f.code.all (fun x=>instS l f x) from all_any l f]
   rw [decide_eq_true (show 1 ≤ f.code.length by omega),decide_eq_true (show f.ty.base ≤ 3 by omega)]
   simp [*]
theorem size_any (A:Option Addr) (cap:Nat) (l:List Fc) {len:Nat} (w:World) (hlen:len=l.length) (hA:FcAt w A l) (hl:len ≤ 9223372036854775806) (hc:countS l ≤ 9223372036854775806) :
  Calls Tryz.prog 80 #[.slice A len cap] w fun e w'=>e=.returned (.int .i64 (countS l))∧Ext w w':=by
 have HLn:=Lib.hid hlen
 clear hlen
 have HA:=Lib.hid hA
 clear hA
 go_enter Tryz.func80,Tryz.ntmps80
 go_wp2
 go_loopw [3,8] (fun n i wr=>∃ k:Nat,k ≤ len∧i=.int .i64 k∧n=.int .i64 (countS (l.take k))∧Ext w wr) (fun _ i _=>len - (intOf i).toNat)
 case atStart=>exact ⟨0,Nat.zero_le _,rfl,rfl,Ext.refl _⟩
 case round =>
  obtain ⟨k,hk,rfl,rfl,hx⟩:=hrel
  have HX:=Lib.hid hx
  clear hx
  have hcl:=countS_le l k
  by_cases hlt:k < len
  ·obtain ⟨f,hf⟩:∃ f,f=l.getD k default:=⟨_,rfl⟩
   obtain ⟨b,off,rfl,hb,c0,c1,c2,c3,c4,c5,c6,c7,c8,_⟩:=(HA.out.ext HX.out).at_ (k:=k) (by rw [← HLn.out]; exact hlt) hf
   have hs:=countS_snoc l k (by rw [← HLn.out]; exact hlt)
   rw [← hf] at hs
   have hs1:=countS_le l (k + 1)
   have HS:=Lib.hid hs
   have hs2:countS (l.take k) + f.code.length ≤ 9223372036854775806:=by omega
   clear hf hs hs1
   go_wp2_with fail
   go_roundw
   case rel=>exact ⟨k + 1,by omega,by go_num,by rw [HS.out]; go_num,HX.out.trans exL⟩
   case measure=>simp [intOf]; omega
  ·go_wp2_with fail
   go_ret
   exact ⟨ret_int (by rw [List.take_of_length_le (by have:=HLn.out; omega)]),HX.out⟩
theorem any_places (l:List Fc):anyI (fun i=>decide (200 < (l.getD i default).places)) l.length=true ↔ ∃ f ∈ l,200 < f.places:=by
 rw [anyI_iff]
 constructor
 ·rintro ⟨k,hk,h⟩
  exact ⟨_,getD_mem hk,of_decide_eq_true h⟩
 ·rintro ⟨f,hf,h⟩
  obtain ⟨j,hj,rfl⟩:=List.getElem_of_mem hf
  refine ⟨j,hj,decide_eq_true ?_⟩
  rwa [List.getD,List.getElem?_eq_getElem hj,Option.getD_some]
theorem isFunc_len (l:List Fc) (A:Option Addr) (cap:Nat) {len:Nat} (f:Fc) (w:World) (h:len=l.length) (g:Laid w) (hA:FcAt w A l) (hl:len ≤ 9223372036854775807) (hfl:f.code.length ≤ 9223372036854775807) (hC:CdAt w f.A f.code) :
  Calls Tryz.prog 83 #[.slice A len cap,.agg #[.string f.name,.int .i64 f.params,.int .i64 f.places,.int .i64 f.ty.base,.int .i64 f.ty.bits,.string f.ty.name,.bool f.ty.opt,.bool f.ty.err,.slice f.A f.code.length f.cap]] w fun e w'=>e=.returned (.bool (fcS l f))∧Ext w w':=by
 subst h
 exact isFunc_any l A cap f w g hA hl hfl hC
theorem index_len (A:Option Addr) (cap:Nat) (l:List Fc) {len:Nat} (n:ByteArray) (w:World) (h:len=l.length) (hA:FcAt w A l) (hl:len ≤ 9223372036854775807) :
  Calls Tryz.prog 25 #[.slice A len cap,.string n] w fun e w'=>e=.returned (.int .i64 (indexS l n))∧Ext w w':=by
 subst h
 exact index_any A cap l n w hA hl
theorem contains_len (A:Option Addr) (cap:Nat) (l:List Fc) {len:Nat} (w:World) (h:len=l.length) (hA:FcAt w A l) (hl:len ≤ 9223372036854775807) :
  Calls Tryz.prog 81 #[.slice A len cap,.func (.func 82) #[] #[]] w fun e w'=>e=.returned (.bool (anyI (fun i=>decide (200 < (l.getD i default).places)) l.length))∧Ext w w':=by
 subst h
 exact containsFuncF_any A l.length cap _ #[] w hl _ hA.top enters_valid1 _ (fun i w1 _ _=>valid1_any (l.getD i default) w1)
theorem cValidate_any (A:Option Addr) (cap:Nat) (l:List Fc) (w:World) (g:Laid w) (hA:FcAt w A l) (hl:l.length ≤ 9223372036854775806) (hc:l.length ≤ 48 → countS l ≤ 9223372036854775806) (hfl:∀ f,f ∈ l → f.code.length ≤ 9223372036854775806) :
  Calls Tryz.prog 45 #[.slice A l.length cap] w fun e w'=>e=.returned (.int .i64 (validS l))∧Ext w w':=by
 have HA:=Lib.hid hA
 have HFL:=Lib.hid hfl
 clear hA hfl
 obtain ⟨len,hlen⟩:∃ len,len=l.length:=⟨_,rfl⟩
 have HP:=Lib.hid (any_places l)
 rw [← hlen] at hl hc ⊢
 have HLn:=Lib.hid hlen
 clear hlen
 by_cases h1:48 < (len:Int)
 ·have HV:=Lib.hid (validS_large (l:=l) (.inl (by have:=HLn.out; omega)))
  clear hc
  go_enter Tryz.func45,Tryz.ntmps45
  go_wp2_with fail
  go_ret
  exact ⟨ret_int HV.out.symm,Ext.refl _⟩
 ·have hcc:=hc (by omega)
  clear hc
  by_cases h2:2000 < (countS l:Int)
  ·have HV:=Lib.hid (validS_large (l:=l) (.inr (.inl (by omega))))
   go_enter Tryz.func45,Tryz.ntmps45
   go_wp2_with (first | (go_at_call 80; refine (size_any A cap l _ HLn.out (HA.out.ext exL) hl hcc).mono ?_; rintro r w1 ⟨rfl,x1⟩))
   go_ret
   exact ⟨ret_int HV.out.symm,exL⟩
  ·obtain ⟨bp,hbp⟩:∃ bp,bp=anyI (fun i=>decide (200 < (l.getD i default).places)) l.length:=⟨_,rfl⟩
   have HBP:=Lib.hid hbp
   clear hbp
   cases bp
   case true =>
    have HV:=Lib.hid (validS_large (l:=l) (.inr (.inr (HP.out.1 HBP.out.symm))))
    go_enter Tryz.func45,Tryz.ntmps45
    go_wp2_with (first
     | (go_at_call 80; refine (size_any A cap l _ HLn.out (HA.out.ext exL) hl hcc).mono ?_; rintro r w1 ⟨rfl,x1⟩)
     | (go_at_call 81; refine (contains_len A cap l _ HLn.out (HA.out.ext exL) (by omega)).mono ?_; rw [← HBP.out]; rintro r w2 ⟨rfl,x2⟩))
    go_ret
    exact ⟨ret_int HV.out.symm,exL⟩
   case false =>
    have H0:Hid (¬ (48 < l.length ∨ 2000 < countS l ∨ (∃ f ∈ l,200 < f.places))):=by
     rintro (h | h | h)
     ·have:=HLn.out; omega
     ·omega
     ·have:=HP.out.2 h; rw [← HBP.out] at this; cases this
    go_enter Tryz.func45,Tryz.ntmps45
    go_wp2_with (first
     | (go_at_call 80; refine (size_any A cap l _ HLn.out (HA.out.ext exL) hl hcc).mono ?_; rintro r w1 ⟨rfl,x1⟩)
     | (go_at_call 81; refine (contains_len A cap l _ HLn.out (HA.out.ext exL) (by omega)).mono ?_; rw [← HBP.out]; rintro r w2 ⟨rfl,x2⟩))
    all_goals try (exfalso; omega)
    have HX0:Hid (Ext w w2):=by unfold Hid; exact exL
    clear x1 x2
    go_loopw [19] (fun i wr=>∃ k:Nat,k ≤ len∧i=.int .i64 k∧okTo l k∧Ext w wr) (fun i _=>len - (intOf i).toNat)
    case atStart=>exact ⟨0,Nat.zero_le _,rfl,fun j hj=>by omega,HX0.out⟩
    case round =>
     obtain ⟨k,hk,rfl,hok,hx⟩:=hrel
     have HK:=Lib.hid hok
     have HX:=Lib.hid hx
     clear hok hx
     by_cases hlt:k < len
     ·obtain ⟨f,hf⟩:∃ f,f=l.getD k default:=⟨_,rfl⟩
      obtain ⟨b,off,rfl,hb,c0,c1,c2,c3,c4,c5,c6,c7,c8,hcd⟩:=(HA.out.ext HX.out).at_ (k:=k) (by rw [← HLn.out]; exact hlt) hf
      obtain ⟨q,hq⟩:∃ q,q=indexS l f.name:=⟨_,rfl⟩
      have HQ:=Lib.hid hq
      have HCD:=Lib.hid hcd
      have hfl9:f.code.length ≤ 9223372036854775806:=HFL.out f (by rw [hf]; exact getD_mem (by rw [← HLn.out]; exact hlt))
      have HF:=Lib.hid hf
      clear hf hcd hq
      have HB:Hid (¬ (fcS l f=true∧q=(k:Int)) → validS l=1):=fun h=>validS_bad H0.out (by rw [← HLn.out]; exact hlt) (by rw [← HF.out,← HQ.out]; exact h)
      obtain ⟨bf,hbf⟩:∃ bf,bf=fcS l f:=⟨_,rfl⟩
      have HBF:=Lib.hid hbf
      clear hbf
      go_wp2_with (first
       | (go_at_call 83; refine (isFunc_len l _ cap f _ HLn.out (g.ext (HX.out.trans exL)) (HA.out.ext (HX.out.trans exL)) (by omega) (by omega) (HCD.out.ext exL)).mono ?_; rw [← HBF.out]; rintro r w4 ⟨rfl,x4⟩; have y4:=x4.facts; have z4:=x4.z0)
       | (go_at_call 25; refine (index_len _ cap l _ _ HLn.out (HA.out.ext (HX.out.trans exL)) (by omega)).mono ?_; rw [← HQ.out]; rintro r w5 ⟨rfl,x5⟩))
      case roundEnd =>
       have h9:bf=true:=by assumption
       have h8:(q != (k:Int))=false:=by assumption
       have hqk:q=(k:Int):=by simpa using h8
       have HX5:Hid (Ext w w5):=HX.out.trans exL
       refine ⟨⟨k + 1,by omega,by go_num,?_,HX5.out⟩,by simp [intOf]; omega⟩
       intro j hj
       rcases Nat.lt_or_ge j k with h | h
       ·exact HK.out j h
       ·obtain rfl:j=k:=by omega
        rw [← HF.out,← HQ.out,← HBF.out]
        exact ⟨h9,hqk⟩
      all_goals first
       | (have h9:bf=false:=by assumption
          go_ret
          exact ⟨ret_int (HB.out (by rw [← HBF.out,h9]; simp)).symm,HX.out.trans exL⟩)
       | (have h9:(q != (k:Int))=true:=by assumption
          go_ret
          exact ⟨ret_int (HB.out (by intro hh; rw [hh.2] at h9; simp at h9)).symm,HX.out.trans exL⟩)
     ·go_wp2_with fail
      go_ret
      exact ⟨ret_int (validS_good H0.out (by have h:=HK.out; obtain rfl:k=len:=(by omega); rw [← HLn.out]; exact h)).symm,HX.out⟩
end Go.Proofs.YtcoookehfhhhdaaGreatDoor.c
