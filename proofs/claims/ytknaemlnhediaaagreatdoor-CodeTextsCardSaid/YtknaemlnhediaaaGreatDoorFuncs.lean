/- Contracts of the library's IndexFunc and ContainsFunc at the types of this program. -/
import Derived.Test.YtknaemlnhediaaaGreatDoorDataF
namespace Go.Proofs.YtknaemlnhediaaaGreatDoor.c
open Go.RowKit
set_option linter.unusedVariables false
set_option maxRecDepth 100000
set_option maxHeartbeats 1600000
set_option linter.unusedSimpArgs false
theorem indexFuncC_any (A:Option Addr) (n cap:Nat) (K:Nat) (caps:Array Value) (w:World) (hn:n ≤ 9223372036854775807)
  (c:Nat → Nat → Value) (hA:At w A n 9 c) (hK:Enters K) (p:Nat → Bool)
  (hp:∀ i w1,i < n → Ext w w1 → Calls Tryz.prog K (#[.agg #[c i 0,c i 1,c i 2,c i 3,c i 4,c i 5,c i 6,c i 7,c i 8]] ++ caps) w1 fun e w2=>e=.returned (.bool (p i))∧Ext w1 w2) :
  Calls Tryz.prog 237 #[.slice A n cap,.func (.func K) #[] caps] w fun e w'=>e=.returned (.int .i64 (findI p n))∧Ext w w':=by
 have HP:=Lib.hid hp; clear hp
 go_enter Tryz.func237,Tryz.ntmps237
 go_wp2
 go_loopw [5,8] (fun _ i wr=>∃ k:Nat,k ≤ n∧i=.int .i64 k∧(∀ j,j < k → p j=false)∧Ext w wr) (fun _ i _=>n - (intOf i).toNat)
 case atStart=>exact ⟨0,Nat.zero_le _,rfl,by omega,Ext.refl _⟩
 case round =>
  obtain ⟨k,hk,rfl,hnone,hx⟩:=hrel
  have HN:=Lib.hid hnone; clear hnone
  by_cases hlt:k < n
  ·obtain ⟨b,off,rfl,hb,c0,c1,c2,c3,c4,c5,c6,c7,c8⟩:=(hA.ext hx).nine hlt
   go_wp2_with fail
   have HP1:=Lib.hid (HP.out k wr hlt hx)
   simp only [hK _ _]
   go_wp2_with fail
   refine (HP1.out).mono ?_
   rintro e w1 ⟨rfl,x1⟩
   cases hpk:p k
   ·go_wp2_with fail
    go_roundw
    case rel=>exact ⟨k + 1,by omega,by go_num,(fun j hj=>by rcases Nat.lt_or_ge j k with h | h; exact HN.out j h; obtain rfl:j=k:=(by omega); exact hpk),hx.trans x1⟩
    case measure=>simp [intOf]; omega
   ·go_wp2_with fail
    go_ret
    exact ⟨ret_int (findI_hit hlt hpk HN.out).symm,hx.trans x1⟩
  ·go_wp2_with fail
   go_ret
   exact ⟨ret_int (findI_none (fun j hj=>HN.out j (by omega))).symm,hx⟩
def anyI (p:Nat → Bool) (n:Nat):Bool:=decide (0 ≤ findI p n)
theorem anyI_iff {p:Nat → Bool} {n:Nat}:anyI p n=true ↔ ∃ k,k < n∧p k=true:=by
 unfold anyI
 rw [decide_eq_true_eq]
 rcases findI_cases p n with ⟨h,hn⟩ | ⟨k,h,hk,hp,_⟩
 ·rw [h]
  constructor
  ·intro h; omega
  ·rintro ⟨k,hk,hp⟩; rw [hn k hk] at hp; cases hp
 ·rw [h]
  exact ⟨fun _=>⟨k,hk,hp⟩,fun _=>by omega⟩
theorem containsFuncC_any (A:Option Addr) (n cap:Nat) (K:Nat) (caps:Array Value) (w:World) (hn:n ≤ 9223372036854775807)
  (c:Nat → Nat → Value) (hA:At w A n 9 c) (hK:Enters K) (p:Nat → Bool)
  (hp:∀ i w1,i < n → Ext w w1 → Calls Tryz.prog K (#[.agg #[c i 0,c i 1,c i 2,c i 3,c i 4,c i 5,c i 6,c i 7,c i 8]] ++ caps) w1 fun e w2=>e=.returned (.bool (p i))∧Ext w1 w2) :
  Calls Tryz.prog 192 #[.slice A n cap,.func (.func K) #[] caps] w fun e w'=>e=.returned (.bool (anyI p n))∧Ext w w':=by
 have HP:=Lib.hid hp; clear hp
 go_enter Tryz.func192,Tryz.ntmps192
 go_wp2_with fail
 refine (indexFuncC_any A n cap K caps w hn c hA hK p HP.out).mono ?_
 rintro e w1 ⟨rfl,x1⟩
 go_wp2_with fail
 go_ret
 exact ⟨rfl,x1⟩
theorem containsFuncF_any (A:Option Addr) (n cap:Nat) (K:Nat) (caps:Array Value) (w:World) (hn:n ≤ 9223372036854775807)
  (c:Nat → Nat → Value) (hA:At w A n 9 c) (hK:Enters K) (p:Nat → Bool)
  (hp:∀ i w1,i < n → Ext w w1 → Calls Tryz.prog K (#[.agg #[c i 0,c i 1,c i 2,c i 3,c i 4,c i 5,c i 6,c i 7,c i 8]] ++ caps) w1 fun e w2=>e=.returned (.bool (p i))∧Ext w1 w2) :
  Calls Tryz.prog 125 #[.slice A n cap,.func (.func K) #[] caps] w fun e w'=>e=.returned (.bool (anyI p n))∧Ext w w':=by
 have HP:=Lib.hid hp; clear hp
 go_enter Tryz.func125,Tryz.ntmps125
 go_wp2_with fail
 refine (indexFunc_any A n cap K caps w hn c hA hK p HP.out).mono ?_
 rintro e w1 ⟨rfl,x1⟩
 go_wp2_with fail
 go_ret
 exact ⟨rfl,x1⟩
theorem enters_valid1:Enters 126 := Enters.of Tryz.func126 (by kernel_rfl) (by kernel_rfl)
theorem valid1_any (f:Fc) (w:World) :
  Calls Tryz.prog 126 #[f.val] w fun e w'=>e=.returned (.bool (decide (200 < f.places)))∧Ext w w':=by
 unfold Fc.val
 go_enter Tryz.func126,Tryz.ntmps126
 go_wp2
 go_ret
 exact ⟨rfl,exA⟩
end Go.Proofs.YtknaemlnhediaaaGreatDoor.c
