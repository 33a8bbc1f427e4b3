/- Contracts of the reference's number and bitwise. Conditions: a type has 1 to 31 bits, the numbers are of the type. Contracts of the reference's exact, Result, Do, Freely, Loose, Holds. Conditions: a type has 1 to 31 bits, the operation is one, the numbers are of the type. -/
import Derived.Test.YtcoookehfhhhdaaGreatDoorRari
import Derived.Test.YtcoookehfhhhdaaGreatDoorTy
namespace Go.Proofs.YtcoookehfhhhdaaGreatDoor.c
open Go.RowKit
set_option linter.unusedVariables false
set_option maxRecDepth 100000
set_option maxHeartbeats 3200000
set_option linter.unusedSimpArgs false
theorem numL_drop (l:List Nat) (k:Nat) (h:k < l.length):numL (l.drop k)=l[k] + 2 * numL (l.drop (k + 1)):=by
 rw [List.drop_eq_getElem_cons h,numL]
theorem numL_drop_lt (l:List Nat) (k:Nat) (h:∀ d,d ∈ l → d < 2) (hl:l.length ≤ 31):numL (l.drop k) ≤ 2147483648:=by
 have h1:=numL_lt (l.drop k) (fun d hd=>h d (List.mem_of_mem_drop hd))
 have h2:2 ^ (l.drop k).length ≤ 2 ^ 31:=Nat.pow_le_pow_right (by decide) (by rw [List.length_drop]; omega)
 have:(2:Nat) ^ 31=2147483648:=rfl
 omega
theorem number_any (s:Bool) (b:Int) (A:Option Addr) (cap:Nat) (L:List Nat) (w:World) (h1:1 ≤ b) (h2:b ≤ 31) (hL:L.length ≤ 31) (hd:∀ d,d ∈ L → d < 2)
  (hA:At w A L.length 1 (fun i _=>.int .i64 ((List.map (fun d:Nat=>(d:Int)) L).getD i 0))) :
  Calls Tryz.prog 205 #[.agg #[.bool s,.int .i64 b],.slice A L.length cap] w fun e w'=>e=.returned (.int .i64 (bendI s b (numL L)))∧Ext w w':=by
 have B0:=Lib.hid (Blk.new w 122 #[.bool s,.int .i64 b])
 have HA:=Lib.hid hA
 have HD:=Lib.hid hd
 obtain ⟨n,hn⟩:∃ n,n=L.length:=⟨_,rfl⟩
 have HN:=Lib.hid hn
 rw [← hn] at hL ⊢
 clear hA hd hn
 go_enter Tryz.func205,Tryz.ntmps205
 go_wp2_with fail
 have hw:IntKind.i64.wrap ((n:Int) - 1)=(n:Int) - 1:=IntWalk.i64_in _ (by omega)
 clear hw
 go_loop [5,6] (fun v i=>∃ (k m:Nat),k ≤ n∧m ≤ 2147483648∧i=.int .i64 ((k:Int) - 1)∧v=.int .i64 m∧Hid (m=numL (L.drop k))) (fun _ i=>((intOf i) + 1).toNat)
 case atStart=>exact ⟨n,0,by omega,by omega,rfl,rfl,by unfold Hid; rw [List.drop_eq_nil_of_le (by rw [HN.out]; exact Nat.le_refl _)]; rfl⟩
 case round =>
  obtain ⟨k,m,hk,hm,rfl,rfl,hmk⟩:=hrel
  by_cases hlt:1 ≤ k
  ·obtain ⟨j,rfl⟩:∃ j,k=j + 1:=⟨k - 1,by omega⟩
   have hjl:j < L.length:=by rw [← HN.out]; omega
   obtain ⟨b5,o5,rfl,hb5,c5⟩:=(HA.out.ext ((Ext.refl w).alloc (.cells #[.bool s,.int .i64 b] 122))).one hjl
   have hst:=numL_drop L j hjl
   have hlt2:=numL_drop_lt L j HD.out (by rw [← HN.out]; omega)
   obtain ⟨d,hdd⟩:∃ d:Nat,L[j]=d:=⟨_,rfl⟩
   have hv:(List.map (fun d:Nat=>(d:Int)) L).getD j 0=(d:Int):=by
    rw [List.getD,List.getElem?_map,List.getElem?_eq_getElem hjl,hdd]; rfl
   rw [hv] at c5
   rw [hdd,← hmk.out] at hst
   have hd2:d < 2:=by rw [← hdd]; exact HD.out _ (List.getElem_mem hjl)
   have HST:=Lib.hid hst
   have hsz:2 * m + d ≤ 2147483648:=by omega
   have e1:((j + 1:Nat):Int) - 1=(j:Int):=by omega
   rw [e1]
   clear hv hst hdd e1 hlt2
   go_wp2_with fail
   go_round
   case rel=>exact ⟨j,2 * m + d,by omega,hsz,by first | rfl | go_num,by go_num,by unfold Hid; rw [HST.out]; omega⟩
   case measure=>first | (simp [intOf]; done) | (simp [intOf]; omega)
  ·obtain rfl:k=0:=by omega
   have b0:=B0.out.cell 0
   have b1:=B0.out.cell 1
   simp only [List.getElem?_toArray,List.getElem?_cons_zero,List.getElem?_cons_succ] at b0 b1
   go_wp2_with (first
    | (go_at_call 148; refine (bent_any s b _ _ h1 h2).mono ?_; rintro r w2 ⟨rfl,x2⟩))
   go_ret
   exact ⟨ret_int (by rw [hmk.out]; rfl),exA⟩
def zipB (op:Int) (X Y:List Nat):List Nat:=List.zipWith (fun a c=>bitF op (a + c)) X Y
theorem zipB_len (op:Int) (X Y:List Nat) (h:X.length=Y.length):(zipB op X Y).length=X.length:=by unfold zipB; rw [List.length_zipWith,h,Nat.min_self]
theorem zipB_take (op:Int) (X Y:List Nat) (h:X.length=Y.length) (j:Nat) (hj:j < X.length):(zipB op X Y).take (j + 1)=(zipB op X Y).take j ++ [bitF op (X[j] + Y[j])]:=by
 have hl:j < (zipB op X Y).length:=by rw [zipB_len op X Y h]; exact hj
 rw [List.take_succ_eq_append_getElem hl]
 have:(zipB op X Y)[j]=bitF op (X[j] + Y[j]):=List.getElem_zipWith ..
 rw [this]
theorem bitwise_any (op:Int) (s:Bool) (b a c:Int) (w:World) (h1:1 ≤ b) (h2:b ≤ 31) (hop:op=15 ∨ op=16 ∨ op=17) (ha:fitI s b a=true) (hc:fitI s b c=true) :
  Calls Tryz.prog 183 #[.int .i64 op,.agg #[.bool s,.int .i64 b],.int .i64 a,.int .i64 c] w fun e w'=>e=.returned (.int .i64 (looseI op s b a c))∧Ext w w':=by
 obtain ⟨X,hX⟩:∃ X,digs b.toNat (a % spanI b).toNat=X:=⟨_,rfl⟩
 obtain ⟨Y,hY⟩:∃ Y,digs b.toNat (c % spanI b).toNat=Y:=⟨_,rfl⟩
 have hXl:X.length=b.toNat:=by rw [← hX,digs_len]
 have hYl:Y.length=b.toNat:=by rw [← hY,digs_len]
 have hXd:∀ d,d ∈ X → d < 2:=fun d h=>by rw [← hX] at h; exact digs_mem h
 have hYd:∀ d,d ∈ Y → d < 2:=fun d h=>by rw [← hY] at h; exact digs_mem h
 have HR:Hid (looseI op s b a c=bendI s b (numL (zipB op X Y))):=by
  unfold Hid looseI zipB
  rw [if_pos (by omega),← hX,← hY]
  have lt:∀ x:Int,(x % spanI b).toNat < 2 ^ b.toNat:=fun x=>by
   obtain ⟨q,e,q1,_⟩:=span_parts h1 h2
   have h3:=Int.emod_nonneg x (show spanI b ≠ 0 by omega)
   have h4:=Int.emod_lt_of_pos x (show 0 < spanI b by omega)
   have h5:spanI b=((2 ^ b.toNat:Nat):Int):=by unfold spanI; simp
   omega
  rw [numL_bits op b.toNat _ _ (lt a) (lt c)]
 have HDX:Hid (∀ w,Calls Tryz.prog 204 #[.agg #[.bool s,.int .i64 b],.int .i64 a] w fun e w'=>∃ v,e=.returned v∧IntsAt w' v (List.map (fun d:Nat=>(d:Int)) X)∧Ext w w'):=fun w=>by
  have:=digits_any s b a w h1 h2 ha
  unfold digsI at this
  rwa [hX] at this
 have HDY:Hid (∀ w,Calls Tryz.prog 204 #[.agg #[.bool s,.int .i64 b],.int .i64 c] w fun e w'=>∃ v,e=.returned v∧IntsAt w' v (List.map (fun d:Nat=>(d:Int)) Y)∧Ext w w'):=fun w=>by
  have:=digits_any s b c w h1 h2 hc
  unfold digsI at this
  rwa [hY] at this
 have HXl:=Lib.hid (show X.length=Y.length by omega)
 have HXd:=Lib.hid hXd
 have HYd:=Lib.hid hYd
 obtain ⟨n,hn⟩:∃ n,n=X.length:=⟨_,rfl⟩
 have HN:=Lib.hid hn
 have hn31:n ≤ 31:=by omega
 have B0:=Lib.hid (Blk.new w 122 #[.bool s,.int .i64 b])
 obtain ⟨i0,hi0,hz0,hz1,hz2⟩:=info_parts info_int
 have HI:=Lib.hid hi0; have HZ0:=Lib.hid hz0; have HZ1:=Lib.hid hz1; have HZ2:=Lib.hid hz2
 have HOP:=Lib.hid hop
 clear hop hi0 hz0 hz1 hz2 hX hY hXl hYl hXd hYd hn ha hc
 go_enter Tryz.func183,Tryz.ntmps183
 go_wp2_with fail
 have D0:Hid (∀ w',Ext (w.alloc (.cells #[.bool s,.int .i64 b] 122)) w' → w'.cell? ⟨w.heap.size,0,none⟩=some (.bool s)∧w'.cell? ⟨w.heap.size,1,none⟩=some (.int .i64 b)):=fun w' x=>⟨(B0.out.ext x).cell 0,(B0.out.ext x).cell 1⟩
 have X0:Hid (Ext w (w.alloc (.cells #[.bool s,.int .i64 b] 122))):=(Ext.refl _).alloc _
 generalize (w.alloc (.cells #[.bool s,.int .i64 b] 122))=w0 at D0 X0 B0 ⊢
 have dd:=D0.out _ (Ext.refl _).drew
 go_region_held3 (fun w'=>w'.cell? ⟨w.heap.size,0,none⟩=some (.bool s)∧w'.cell? ⟨w.heap.size,1,none⟩=some (.int .i64 b)) ((first | exact dd | exact e1 | exact e2 | exact e3 | exact e4)) ((first
  | (go_at_call 204
     (with_reducible refine (HDX.out w0.drew).mono ?_)
     rintro r w1 ⟨v1,rfl,i1,x1⟩
     have e1:=D0.out _ ((Ext.refl _).drew.trans x1))
  | (go_at_call 204
     (with_reducible refine (HDY.out w0.drew).mono ?_)
     rintro r w3 ⟨v3,rfl,i3,x3⟩
     have e3:=D0.out _ ((Ext.refl _).drew.trans x3))
  | (go_at_call 204
     (with_reducible refine (HDY.out w1).mono ?_)
     rintro r w2 ⟨v2,rfl,i2,x2⟩
     have e2:=D0.out _ (((Ext.refl _).drew.trans x1).trans x2))
  | (go_at_call 204
     (with_reducible refine (HDX.out w3).mono ?_)
     rintro r w4 ⟨v4,rfl,i4,x4⟩
     have e4:=D0.out _ (((Ext.refl _).drew.trans x3).trans x4))))
 ·skip
  have IX:=Lib.hid (i1.ext x2)
  have IY:=Lib.hid i2
  have X5:=Lib.hid (((Ext.refl _).drew.trans x1).trans x2)
  clear i1 i2 x1 x2 e1 e2 dd
  generalize w2=w5 at IX IY X5 ⊢
  obtain ⟨A1,cap1,rfl,a1⟩:=IX.out
  obtain ⟨A2,cap2,rfl,a2⟩:=IY.out
  have HA1:=Lib.hid a1
  have HA2:=Lib.hid a2
  have e1l:(List.map (fun d:Nat=>(d:Int)) X).length=n:=by rw [List.length_map]; exact HN.out.symm
  have e2l:(List.map (fun d:Nat=>(d:Int)) Y).length=n:=by rw [List.length_map,← HXl.out]; exact HN.out.symm
  rw [e1l] at HA1 ⊢
  rw [e2l] at HA2 ⊢
  clear a1 a2 IX IY e1l e2l
  go_wp2_with fail
  go_loopw [11,12,13] (fun v i _ wr=>∃ (j:Nat),j ≤ n∧i=.int .i64 j∧wr.ownsRow w5.heap.size 3 1 v ((zipB op X Y).take j).length (List.map (fun d:Nat=>.int .i64 (d:Int)) ((zipB op X Y).take j))∧Ext w5 wr) (fun _ i _ _=>n - (intOf i).toNat)
  case atStart=>exact ⟨0,by omega,rfl,World.ownsRow_nil _ _ _ _,Ext.refl _⟩
  case round =>
   obtain ⟨j,hj,rfl,ow,hx⟩:=hrel
   have HO:=Lib.hid ow
   have HX:=Lib.hid hx
   have hln:((zipB op X Y).take j).length ≤ j:=List.length_take_le _ _
   by_cases hlt:j < n
   ·have hjx:j < X.length:=by rw [← HN.out]; exact hlt
    have hjy:j < Y.length:=by rw [← HXl.out]; exact hjx
    have HT:=Lib.hid (zipB_take op X Y HXl.out j hjx)
    obtain ⟨x,hxx⟩:∃ x:Nat,X[j]=x:=⟨_,rfl⟩
    obtain ⟨y,hyy⟩:∃ y:Nat,Y[j]=y:=⟨_,rfl⟩
    have hx2:x < 2:=by rw [← hxx]; exact HXd.out _ (List.getElem_mem hjx)
    have hy2:y < 2:=by rw [← hyy]; exact HYd.out _ (List.getElem_mem hjy)
    have hvx:(List.map (fun d:Nat=>(d:Int)) X).getD j 0=(x:Int):=by
     rw [List.getD,List.getElem?_map,List.getElem?_eq_getElem hjx,hxx]; rfl
    have hvy:(List.map (fun d:Nat=>(d:Int)) Y).getD j 0=(y:Int):=by
     rw [List.getD,List.getElem?_map,List.getElem?_eq_getElem hjy,hyy]; rfl
    rw [hxx,hyy] at HT
    obtain ⟨b5,o5,rfl,hb5,c5⟩:=(HA1.out.ext hx).one hlt
    obtain ⟨b6,o6,rfl,hb6,c6⟩:=(HA2.out.ext hx).one hlt
    rw [hvx] at c5
    rw [hvy] at c6
    have hwx:IntKind.i64.wrap ((x:Int) + (y:Int))=(x:Int) + (y:Int):=IntWalk.i64_in _ (by omega)
    have hi0:(0:Int) ≤ (j:Int):=by omega
    have hi1:(j:Int) < (n:Int):=by omega
    clear ow hx hvx hvy hxx hyy hjx hjy
    have hop:=HOP.out
    rcases hop with rfl | rfl | rfl
    ·go_wp2_with fail
     go_quiet (fail)
     go_wp2_with (first
      | (at_builtin
         refine wpList_append_own _ rfl _ _ 65 rfl w5.heap.size 3 i0 _ 1 8 Tryz.underlying65 HI.out HZ0.out HZ1.out HZ2.out rfl (by decide) _ _ _ rfl ((own_ext HO.out ((Ext.refl wr).drewN _)).alloc _) ⟨wr.heap.size,0,none⟩ 1 1 [.int .i64 ((((x:Nat):Int) + ((y:Nat):Int)) / 2)] rfl rfl ?_ ?_ ?_ ?_ ?_ ?_))
     ·intro j2 u hj2
      match j2,hj2 with
      | 0,hj2=>simp at hj2; subst hj2; exact (Blk.new (wr.drewN _) 3 _).cell 0
     ·intro u hu; simp at hu; subst hu; rfl
     ·unfold maxLen; omega
     ·omega
     ·have:=HX.out.size; simp; omega
     ·intro v' w6 ow6 g6 _
      have OW6:=Lib.hid ow6
      have G6:=Lib.hid (((HX.out.drewN _).alloc (.cells #[.int .i64 ((((x:Nat):Int) + ((y:Nat):Int)) / 2)] 3)).grown g6 (own_row HO.out))
      clear ow6 g6
      go_wp2_with fail
      go_roundw
      case rel =>
       refine ⟨j + 1,by omega,by go_num,?_,G6.out⟩
       rw [HT.out]
       have e9:((bitF 15 (x + y):Nat):Int)=(((x:Nat):Int) + ((y:Nat):Int)) / 2:=by unfold bitF; simp
       simpa [e9] using OW6.out
      case measure=>simp [intOf]; omega
    ·go_wp2_with fail
     go_quiet (fail)
     go_wp2_with (first
      | (at_builtin
         refine wpList_append_own _ rfl _ _ 65 rfl w5.heap.size 3 i0 _ 1 8 Tryz.underlying65 HI.out HZ0.out HZ1.out HZ2.out rfl (by decide) _ _ _ rfl ((own_ext HO.out ((Ext.refl wr).drewN _)).alloc _) ⟨wr.heap.size,0,none⟩ 1 1 [.int .i64 ((((x:Nat):Int) + ((y:Nat):Int) + 1) / 2)] rfl rfl ?_ ?_ ?_ ?_ ?_ ?_))
     ·intro j2 u hj2
      match j2,hj2 with
      | 0,hj2=>simp at hj2; subst hj2; exact (Blk.new (wr.drewN _) 3 _).cell 0
     ·intro u hu; simp at hu; subst hu; rfl
     ·unfold maxLen; omega
     ·omega
     ·have:=HX.out.size; simp; omega
     ·intro v' w6 ow6 g6 _
      have OW6:=Lib.hid ow6
      have G6:=Lib.hid (((HX.out.drewN _).alloc (.cells #[.int .i64 ((((x:Nat):Int) + ((y:Nat):Int) + 1) / 2)] 3)).grown g6 (own_row HO.out))
      clear ow6 g6
      go_wp2_with fail
      go_roundw
      case rel =>
       refine ⟨j + 1,by omega,by go_num,?_,G6.out⟩
       rw [HT.out]
       have e9:((bitF 16 (x + y):Nat):Int)=(((x:Nat):Int) + ((y:Nat):Int) + 1) / 2:=by unfold bitF; simp
       simpa [e9] using OW6.out
      case measure=>simp [intOf]; omega
    ·go_wp2_with fail
     go_quiet (fail)
     go_wp2_with (first
      | (at_builtin
         refine wpList_append_own _ rfl _ _ 65 rfl w5.heap.size 3 i0 _ 1 8 Tryz.underlying65 HI.out HZ0.out HZ1.out HZ2.out rfl (by decide) _ _ _ rfl ((own_ext HO.out ((Ext.refl wr).drewN _)).alloc _) ⟨wr.heap.size,0,none⟩ 1 1 [.int .i64 ((((x:Nat):Int) + ((y:Nat):Int)) % 2)] rfl rfl ?_ ?_ ?_ ?_ ?_ ?_))
     ·intro j2 u hj2
      match j2,hj2 with
      | 0,hj2=>simp at hj2; subst hj2; exact (Blk.new (wr.drewN _) 3 _).cell 0
     ·intro u hu; simp at hu; subst hu; rfl
     ·unfold maxLen; omega
     ·omega
     ·have:=HX.out.size; simp; omega
     ·intro v' w6 ow6 g6 _
      have OW6:=Lib.hid ow6
      have G6:=Lib.hid (((HX.out.drewN _).alloc (.cells #[.int .i64 ((((x:Nat):Int) + ((y:Nat):Int)) % 2)] 3)).grown g6 (own_row HO.out))
      clear ow6 g6
      go_wp2_with fail
      go_roundw
      case rel =>
       refine ⟨j + 1,by omega,by go_num,?_,G6.out⟩
       rw [HT.out]
       have e9:((bitF 17 (x + y):Nat):Int)=(((x:Nat):Int) + ((y:Nat):Int)) % 2:=by unfold bitF; simp
       simpa [e9] using OW6.out
      case measure=>simp [intOf]; omega
   ·clear ow hx
    obtain rfl:j=n:=by omega
    have hfin:=HO.out
    rw [List.take_of_length_le (by rw [zipB_len _ _ _ HXl.out]; exact Nat.le_of_eq HN.out.symm)] at hfin
    obtain ⟨A7,cap7,e7,a7⟩:=own_slice hfin
    have HA7:Hid (At wr A7 (zipB op X Y).length 1 (fun i _=>.int .i64 ((List.map (fun d:Nat=>(d:Int)) (zipB op X Y)).getD i 0))):=by
     intro hpos
     obtain ⟨b8,o8,rfl,hb8,h8⟩:=a7 hpos
     refine ⟨b8,o8,rfl,hb8,fun i k hi hk=>?_⟩
     obtain rfl:k=0:=by omega
     rw [h8 i 0 hi hk]
     simp [List.getD,hi]
    have HZL:Hid ((zipB op X Y).length ≤ 31∧∀ d,d ∈ zipB op X Y → d < 2):=by
     refine ⟨by rw [zipB_len _ _ _ HXl.out,← HN.out]; exact hn31,fun d hd=>?_⟩
     unfold zipB at hd
     obtain ⟨i,hi,rfl⟩:=List.getElem_of_mem hd
     rw [List.getElem_zipWith]
     rw [List.length_zipWith] at hi
     have h1:=HXd.out _ (List.getElem_mem (show i < X.length by omega))
     have h2:=HYd.out _ (List.getElem_mem (show i < Y.length by omega))
     exact bitF_lt (by omega)
    have dd:=D0.out _ (X5.out.trans HX.out)
    obtain ⟨d0,d1⟩:=dd
    have XF:=Lib.hid (X0.out.trans (X5.out.trans HX.out))
    subst e7
    clear a7 hfin
    go_wp2_with (first
     | (go_at_call 205; refine (number_any s b _ _ _ _ h1 h2 HZL.out.1 HZL.out.2 HA7.out).mono ?_; rintro r w8 ⟨rfl,x8⟩))
    go_ret
    exact ⟨ret_int (by rw [HR.out]),XF.out.trans x8⟩
theorem tdiv_in2 {a c:Int} (ha:-2147483648 ≤ a∧a ≤ 2147483648):-2147483648 ≤ a.tdiv c∧a.tdiv c ≤ 2147483648:=by
 have h:(a.tdiv c).natAbs ≤ a.natAbs:=by rw [Int.natAbs_tdiv]; exact Nat.div_le_self _ _
 omega
theorem exact_any (op a c n:Int) (w:World) (ha:-2147483648 ≤ a∧a ≤ 2147483648) (hc:-2147483648 ≤ c∧c ≤ 2147483648) (h3:5 ≤ op) (h4:op ≤ 14) (hz:(op=8 ∨ op=9) → c ≠ 0) (hn:rawI op a c=n) :
  Calls Tryz.prog 182 #[.int .i64 op,.int .i64 a,.int .i64 c] w fun e w'=>e=.returned (.tuple #[.int .i64 n,.bool true])∧w=w':=by
 have hm:=mul_in ha hc
 have hd:=tdiv_in2 (c:=c) ha
 have hop:op=5 ∨ op=6 ∨ op=7 ∨ op=8 ∨ op=9 ∨ op=10 ∨ op=11 ∨ op=12 ∨ op=13 ∨ op=14:=by omega
 have HN:=Lib.hid hn
 have a1:=ha.1
 have a2:=ha.2
 have c1:=hc.1
 have c2:=hc.2
 have m1:=hm.1
 have m2:=hm.2
 have d1:=hd.1
 have d2:=hd.2
 have HZ:=Lib.hid hz
 clear ha hc hm hd hn h3 h4 hz
 rcases hop with rfl | rfl | rfl | rfl | rfl | rfl | rfl | rfl | rfl | rfl
 case' inr.inr.inr.inl=>have hz:=HZ.out (.inl rfl)
 case' inr.inr.inr.inr.inl=>have hz:=HZ.out (.inr rfl)
 all_goals
  clear HZ
  go_enter Tryz.func182,Tryz.ntmps182
  go_wp2
  go_ret2
  exact ⟨by rw [← HN.out]; rfl,rfl⟩
theorem exact_zero (op a:Int) (w:World) (h:op=8 ∨ op=9) :
  Calls Tryz.prog 182 #[.int .i64 op,.int .i64 a,.int .i64 0] w fun e w'=>e=.returned (.tuple #[.int .i64 0,.bool false])∧w=w':=by
 rcases h with rfl | rfl
 all_goals
  go_enter Tryz.func182,Tryz.ntmps182
  go_wp2
  go_ret2
  exact ⟨rfl,rfl⟩
def resI (op:Int) (s:Bool) (b a c:Int):Int:=if whyI op s b a c=0 then looseI op s b a c else 0
def ResRet (op:Int) (s:Bool) (b a c:Int) (e:Ending):Prop:=e=.returned (.tuple #[.int .i64 (resI op s b a c),.int .i64 (whyI op s b a c)])
theorem resRet {op:Int} {s:Bool} {b a c n y:Int} (h2:whyI op s b a c=y) (h:y=0 → looseI op s b a c=n) (h0:y ≠ 0 → n=0):ResRet op s b a c (.returned (.tuple #[.int .i64 n,.int .i64 y])):=by
 unfold ResRet resI
 rw [h2]
 by_cases e:y=0
 ·rw [if_pos e,h e]
 ·rw [if_neg e,h0 e]
theorem result_bit (op:Int) (s:Bool) (b a c:Int) (w:World) (h1:1 ≤ b) (h2:b ≤ 31) (hop:op=15 ∨ op=16 ∨ op=17) (ha:fitI s b a=true) (hc:fitI s b c=true) :
  Calls Tryz.prog 151 #[.int .i64 op,.agg #[.bool s,.int .i64 b],.int .i64 a,.int .i64 c] w fun e w'=>ResRet op s b a c e∧Ext w w':=by
 have HR:Hid (ResRet op s b a c (.returned (.tuple #[.int .i64 (looseI op s b a c),.int .i64 0]))):=resRet (by unfold whyI; rw [if_pos (by omega)]) (fun _=>rfl) (fun h=>absurd rfl h)
 have HB:Hid (∀ w,Calls Tryz.prog 183 #[.int .i64 op,.agg #[.bool s,.int .i64 b],.int .i64 a,.int .i64 c] w fun e w'=>e=.returned (.int .i64 (looseI op s b a c))∧Ext w w'):=fun w=>bitwise_any op s b a c w h1 h2 hop ha hc
 clear ha hc
 rcases hop with rfl | rfl | rfl
 all_goals
  go_enter Tryz.func151,Tryz.ntmps151
  go_wp2_with (first
   | (go_at_call 183; refine (HB.out _).mono ?_; rintro r w1 ⟨rfl,x1⟩))
  go_ret2
  exact ⟨HR.out,exA⟩
theorem result_zero (op:Int) (s:Bool) (b a:Int) (w:World) (h:op=8 ∨ op=9) :
  Calls Tryz.prog 151 #[.int .i64 op,.agg #[.bool s,.int .i64 b],.int .i64 a,.int .i64 0] w fun e w'=>ResRet op s b a 0 e∧Ext w w':=by
 have HR:Hid (ResRet op s b a 0 (.returned (.tuple #[.int .i64 0,.int .i64 2]))):=resRet (by unfold whyI; rw [if_neg (by omega),if_pos ⟨h,rfl⟩]) (fun h=>absurd h (by decide)) (fun _=>rfl)
 have HE:Hid (∀ w,Calls Tryz.prog 182 #[.int .i64 op,.int .i64 a,.int .i64 0] w fun e w'=>e=.returned (.tuple #[.int .i64 0,.bool false])∧w=w'):=fun w=>exact_zero op a w h
 rcases h with rfl | rfl
 all_goals
  go_enter Tryz.func151,Tryz.ntmps151
  go_wp2_with (first
   | (go_at_call 182; refine (HE.out _).mono ?_; rintro r w' ⟨rfl,rfl⟩))
  go_ret2
  exact ⟨HR.out,exA⟩
theorem result_into (op:Int) (s:Bool) (b a c:Int) (w:World) (h1:1 ≤ b) (h2:b ≤ 31) (ha:-2147483648 ≤ a∧a ≤ 2147483648) (hc:-2147483648 ≤ c∧c ≤ 2147483648) (hop:op=10 ∨ op=11 ∨ op=12 ∨ op=13 ∨ op=14) :
  Calls Tryz.prog 151 #[.int .i64 op,.agg #[.bool s,.int .i64 b],.int .i64 a,.int .i64 c] w fun e w'=>ResRet op s b a c e∧Ext w w':=by
 obtain ⟨n,hn⟩:∃ n,rawI op a c=n:=⟨_,rfl⟩
 have HY:Hid (whyI op s b a c=0):=by unfold Hid whyI; rw [if_pos (by omega)]
 have HE:Hid (∀ w,Calls Tryz.prog 182 #[.int .i64 op,.int .i64 a,.int .i64 c] w fun e w'=>e=.returned (.tuple #[.int .i64 n,.bool true])∧w=w'):=fun w=>exact_any op a c n w ha hc (by omega) (by omega) (fun h=>by omega) hn
 have HL:Hid (looseI op s b a c=if op=13 ∨ op=14 then nearI s b n else bendI s b n):=by
  unfold Hid looseI
  rw [if_neg (by omega),if_neg (by omega),if_neg (by omega),hn]
 clear ha hc hn
 rcases hop with rfl | rfl | rfl | rfl | rfl
 all_goals
  go_enter Tryz.func151,Tryz.ntmps151
  go_wp2_with (first
   | (go_at_call 182; refine (HE.out _).mono ?_; rintro r w' ⟨rfl,rfl⟩)
   | (go_at_call 148; refine (bent_any s b _ _ h1 h2).mono ?_; rintro r w1 ⟨rfl,x1⟩)
   | (go_at_call 184; refine (nearest_any s b _ _ h1 h2).mono ?_; rintro r w2 ⟨rfl,x2⟩))
  go_ret2
  exact ⟨resRet HY.out (fun _=>by rw [HL.out]; rfl) (fun h=>absurd rfl h),exA⟩
theorem is_as {s:Bool} {b n:Int} {f:Bool} (w:World) (h1:1 ≤ b) (h2:b ≤ 31) (h:fitI s b n=f) :
  Calls Tryz.prog 153 #[.agg #[.bool s,.int .i64 b],.int .i64 n] w fun e w'=>e=.returned (.bool f)∧Ext w w':=by
 have:=is_any s b n w h1 h2
 rwa [h] at this
theorem result_chk (op:Int) (s:Bool) (b a c:Int) (w:World) (h1:1 ≤ b) (h2:b ≤ 31) (ha:-2147483648 ≤ a∧a ≤ 2147483648) (hc:-2147483648 ≤ c∧c ≤ 2147483648) (hop:op=5 ∨ op=6 ∨ op=7 ∨ (op=8∧c ≠ 0)) :
  Calls Tryz.prog 151 #[.int .i64 op,.agg #[.bool s,.int .i64 b],.int .i64 a,.int .i64 c] w fun e w'=>ResRet op s b a c e∧Ext w w':=by
 obtain ⟨n,hn⟩:∃ n,rawI op a c=n:=⟨_,rfl⟩
 have HE:Hid (∀ w,Calls Tryz.prog 182 #[.int .i64 op,.int .i64 a,.int .i64 c] w fun e w'=>e=.returned (.tuple #[.int .i64 n,.bool true])∧w=w'):=fun w=>exact_any op a c n w ha hc (by omega) (by omega) (fun h=>by omega) hn
 have HY:Hid (whyI op s b a c=if fitI s b n=true then 0 else 1):=by unfold Hid whyI; rw [if_neg (by omega),if_neg (by omega),hn]
 have HL:Hid (looseI op s b a c=bendI s b n):=by
  unfold Hid looseI
  rw [if_neg (by omega),if_neg (by omega),if_neg (by omega),if_neg (by omega),hn]
 clear ha hc hn
 cases hf:fitI s b n
 case' true=>have HR:Hid (ResRet op s b a c (.returned (.tuple #[.int .i64 n,.int .i64 0]))):=resRet (by rw [HY.out,if_pos hf]) (fun _=>by rw [HL.out]; exact bend_same h1 h2 hf) (fun h=>absurd rfl h)
 case' false=>have HR:Hid (ResRet op s b a c (.returned (.tuple #[.int .i64 0,.int .i64 1]))):=resRet (by rw [HY.out,hf]; rfl) (fun h=>absurd h (by decide)) (fun _=>rfl)
 all_goals
  have HF:=Lib.hid hf
  clear hf HY HL
  rcases hop with rfl | rfl | rfl | ⟨rfl,_⟩
  all_goals
   go_enter Tryz.func151,Tryz.ntmps151
   go_wp2_with (first
    | (go_at_call 182; refine (HE.out _).mono ?_; rintro r w' ⟨rfl,rfl⟩)
    | (go_at_call 153; refine (is_as _ h1 h2 HF.out).mono ?_; rintro r w1 ⟨rfl,x1⟩))
   go_ret2
   exact ⟨HR.out,exA⟩
theorem result_rem (s:Bool) (b a c:Int) (w:World) (h1:1 ≤ b) (h2:b ≤ 31) (ha:-2147483648 ≤ a∧a ≤ 2147483648) (hc:-2147483648 ≤ c∧c ≤ 2147483648) (hz:c ≠ 0) :
  Calls Tryz.prog 151 #[.int .i64 9,.agg #[.bool s,.int .i64 b],.int .i64 a,.int .i64 c] w fun e w'=>ResRet 9 s b a c e∧Ext w w':=by
 obtain ⟨n,hn⟩:∃ n,a.tdiv c=n:=⟨_,rfl⟩
 have HE:Hid (∀ w,Calls Tryz.prog 182 #[.int .i64 9,.int .i64 a,.int .i64 c] w fun e w'=>e=.returned (.tuple #[.int .i64 n,.bool true])∧w=w'):=fun w=>exact_any 9 a c n w ha hc (by omega) (by omega) (fun h=>hz) hn
 have HY:Hid (whyI 9 s b a c=if fitI s b n=true then 0 else 1):=by unfold Hid whyI; rw [if_neg (by omega),if_neg (by omega),show rawI 9 a c=a.tdiv c from rfl,hn]
 have HL:Hid (looseI 9 s b a c=a - n * c):=by
  unfold Hid looseI
  rw [if_neg (by omega),if_neg (by omega),if_pos rfl,if_neg hz,Int.tmod_def,hn,Int.mul_comm]
 have hp:a - n * c=a.tmod c:=by rw [Int.tmod_def,hn,Int.mul_comm]
 have hpb:(a.tmod c).natAbs ≤ a.natAbs:=by rw [Int.natAbs_tmod]; exact Nat.mod_le _ _
 obtain ⟨p,hpp⟩:∃ p,n * c=p:=⟨_,rfl⟩
 have p1:-9000000000 ≤ p∧p ≤ 9000000000:=by rw [← hpp]; omega
 obtain ⟨p2,p3⟩:=p1
 obtain ⟨a1,a2⟩:=ha
 rw [hpp] at HL
 clear hc hn hp hpb
 cases hf:fitI s b n
 case' true=>have HR:Hid (ResRet 9 s b a c (.returned (.tuple #[.int .i64 (a - p),.int .i64 0]))):=resRet (by rw [HY.out,if_pos hf]) (fun _=>HL.out) (fun h=>absurd rfl h)
 case' false=>have HR:Hid (ResRet 9 s b a c (.returned (.tuple #[.int .i64 0,.int .i64 1]))):=resRet (by rw [HY.out,hf]; rfl) (fun h=>absurd h (by decide)) (fun _=>rfl)
 all_goals
  have HF:=Lib.hid hf
  clear hf HY HL
  go_enter Tryz.func151,Tryz.ntmps151
  go_wp2_with (first
   | (go_at_call 182; refine (HE.out _).mono ?_; rintro r w' ⟨rfl,rfl⟩)
   | (go_at_call 153; refine (is_as _ h1 h2 HF.out).mono ?_; rintro r w1 ⟨rfl,x1⟩))
  go_ret2
  exact ⟨HR.out,exA⟩
theorem result_any (op:Int) (s:Bool) (b a c:Int) (w:World) (h1:1 ≤ b) (h2:b ≤ 31) (h3:5 ≤ op) (h4:op ≤ 17) (ha:fitI s b a=true) (hc:fitI s b c=true) :
  Calls Tryz.prog 151 #[.int .i64 op,.agg #[.bool s,.int .i64 b],.int .i64 a,.int .i64 c] w fun e w'=>ResRet op s b a c e∧Ext w w':=by
 have ia:=fit_in h1 h2 ha
 have ic:=fit_in h1 h2 hc
 have ja:-2147483648 ≤ a∧a ≤ 2147483648:=by omega
 have jc:-2147483648 ≤ c∧c ≤ 2147483648:=by omega
 by_cases h15:15 ≤ op
 ·exact result_bit op s b a c w h1 h2 (by omega) ha hc
 by_cases h10:10 ≤ op
 ·exact result_into op s b a c w h1 h2 ja jc (by omega)
 by_cases h89:(op=8 ∨ op=9)∧c=0
 ·obtain ⟨h,rfl⟩:=h89
  exact result_zero op s b a w h
 by_cases h9:op=9
 ·subst h9
  exact result_rem s b a c w h1 h2 ja jc (by omega)
 ·exact result_chk op s b a c w h1 h2 ja jc (by omega)
theorem rem_zero {s:Bool} {b a c:Int} (h1:1 ≤ b) (h2:b ≤ 31) (ha:fitI s b a=true) (hc:fitI s b c=true) (hz:c ≠ 0) (hf:fitI s b (a.tdiv c)=false):a.tmod c=0:=by
 obtain ⟨q,e,q1,q2,_⟩:=span_parts h1 h2
 have h3:¬ (loI s b ≤ a.tdiv c∧a.tdiv c ≤ hiI s b):=fun h=>by rw [fit_iff.2 h] at hf; cases hf
 have h4:=fit_iff.1 ha
 have h5:=fit_iff.1 hc
 unfold loI hiI at h3 h4 h5
 rw [e] at h3 h4 h5
 have hd:(a.tdiv c).natAbs=a.natAbs / c.natAbs:=Int.natAbs_tdiv ..
 have hle:a.natAbs / c.natAbs ≤ a.natAbs:=Nat.div_le_self _ _
 cases s
 ·exfalso
  simp at h3 h4 h5
  have:0 ≤ a.tdiv c:=Int.tdiv_nonneg h4.1 h5.1
  omega
 ·simp at h3 h4 h5
  have hc1:c.natAbs=1:=by
   rcases Nat.lt_or_ge c.natAbs 2 with h | h
   ·omega
   ·exfalso
    have:a.natAbs / c.natAbs ≤ a.natAbs / 2:=Nat.div_le_div_left h (by decide)
    omega
  have:c=1 ∨ c=-1:=by omega
  rcases this with rfl | rfl
  ·exact Int.tmod_one a
  ·rw [Int.tmod_neg,Int.tmod_one]
theorem freely_any (op:Int) (s:Bool) (b a c:Int) (w:World) (h1:1 ≤ b) (h2:b ≤ 31) (h3:5 ≤ op) (h4:op ≤ 17) (ha:fitI s b a=true) (hc:fitI s b c=true) :
  Calls Tryz.prog 150 #[.int .i64 op,.agg #[.bool s,.int .i64 b],.int .i64 a,.int .i64 c] w fun e w'=>e=.returned (.int .i64 (looseI op s b a c))∧Ext w w':=by
 have ia:=fit_in h1 h2 ha
 have ic:=fit_in h1 h2 hc
 have HR:Hid (∀ w,Calls Tryz.prog 151 #[.int .i64 op,.agg #[.bool s,.int .i64 b],.int .i64 a,.int .i64 c] w fun e w'=>e=.returned (.tuple #[.int .i64 (resI op s b a c),.int .i64 (whyI op s b a c)])∧Ext w w'):=fun w=>result_any op s b a c w h1 h2 h3 h4 ha hc
 have hy:whyI op s b a c=0 ∨ whyI op s b a c=2 ∨ whyI op s b a c=1:=by unfold whyI; split <;> (try split) <;> (try split) <;> simp
 obtain ⟨n,hn⟩:∃ n,looseI op s b a c=n:=⟨_,rfl⟩
 rcases hy with hy | hy | hy
 ·have e:resI op s b a c=n:=by unfold resI; rw [if_pos hy,hn]
  rw [hy,e] at HR
  rw [hn]
  clear ha hc ia ic hy hn e
  go_enter Tryz.func150,Tryz.ntmps150
  go_wp2_with (first
   | (go_at_call 151; refine (HR.out _).mono ?_; rintro r w1 ⟨rfl,x1⟩; have y1:=x1.facts))
  go_ret
  exact ⟨rfl,exA⟩
 ·have hcz:(op=8 ∨ op=9)∧c=0:=by
   unfold whyI at hy
   split at hy
   ·cases hy
   ·split at hy
    ·assumption
    ·split at hy <;> cases hy
  obtain ⟨hop,rfl⟩:=hcz
  have e:resI op s b a 0=0:=by unfold resI; rw [if_neg (by omega)]
  rw [hy,e] at HR
  rcases hop with rfl | rfl
  ·have hn2:n=0:=by rw [← hn]; rfl
   rw [hn,hn2]
   clear ha hc ia ic hy hn e hn2
   go_enter Tryz.func150,Tryz.ntmps150
   go_wp2_with (first
    | (go_at_call 151; refine (HR.out _).mono ?_; rintro r w1 ⟨rfl,x1⟩; have y1:=x1.facts))
   go_ret
   exact ⟨rfl,exA⟩
  ·have hn2:n=a:=by rw [← hn]; rfl
   rw [hn,hn2]
   clear ha hc ia ic hy hn e hn2
   go_enter Tryz.func150,Tryz.ntmps150
   go_wp2_with (first
    | (go_at_call 151; refine (HR.out _).mono ?_; rintro r w1 ⟨rfl,x1⟩; have y1:=x1.facts))
   go_ret
   exact ⟨rfl,exA⟩
 ·have e:resI op s b a c=0:=by unfold resI; rw [if_neg (by omega)]
  have hop:op ≤ 9∧¬ ((op=8 ∨ op=9)∧c=0)∧fitI s b (rawI op a c)=false:=by
   unfold whyI at hy
   split at hy
   ·cases hy
   ·split at hy
    ·cases hy
    ·split at hy
     ·cases hy
     ·rename_i g1 g2 g3
      exact ⟨by omega,g2,by simpa using g3⟩
  obtain ⟨h9,hnz,hff⟩:=hop
  rw [hy,e] at HR
  have HE:Hid (∀ w,Calls Tryz.prog 182 #[.int .i64 op,.int .i64 a,.int .i64 c] w fun e w'=>e=.returned (.tuple #[.int .i64 (rawI op a c),.bool true])∧w=w'):=fun w=>exact_any op a c _ w (by omega) (by omega) h3 (by omega) (fun h=>by omega) rfl
  by_cases h99:op=9
  ·subst h99
   have hn2:n=0:=by
    rw [← hn]
    unfold looseI
    rw [if_neg (by omega),if_neg (by omega),if_pos rfl,if_neg (by omega)]
    exact rem_zero h1 h2 ha hc (by omega) hff
   rw [hn,hn2]
   clear ha hc ia ic hy hn e hn2 hnz hff
   go_enter Tryz.func150,Tryz.ntmps150
   go_wp2_with (first
    | (go_at_call 151; refine (HR.out _).mono ?_; rintro r w1 ⟨rfl,x1⟩; have y1:=x1.facts))
   go_ret
   exact ⟨rfl,exA⟩
  ·have HN:Hid (n=bendI s b (rawI op a c)):=by
    unfold Hid
    rw [← hn]
    unfold looseI
    rw [if_neg (by omega),if_neg (by omega),if_neg (by omega),if_neg (by omega)]
   rw [hn]
   generalize rawI op a c=k at HE HN hff
   clear ha hc ia ic hy hn e hnz hff
   go_enter Tryz.func150,Tryz.ntmps150
   go_wp2_with (first
    | (go_at_call 151; refine (HR.out _).mono ?_; rintro r w1 ⟨rfl,x1⟩; have y1:=x1.facts; have z1:=x1.z0)
    | (go_at_call 182; refine (HE.out _).mono ?_; rintro r w' ⟨rfl,rfl⟩)
    | (go_at_call 148; refine (bent_any s b _ _ h1 h2).mono ?_; rintro r w2 ⟨rfl,x2⟩))
   go_ret
   exact ⟨ret_int HN.out.symm,exA⟩
theorem holds_any (op a c:Int) (w:World):Calls Tryz.prog 152 #[.int .i64 op,.int .i64 a,.int .i64 c] w fun e w'=>e=.returned (.bool (cmpB op a c))∧w=w':=by
 rcases (show op=18 ∨ op=19 ∨ op=20 ∨ op=21 ∨ op=22 ∨ (op ≠ 18∧op ≠ 19∧op ≠ 20∧op ≠ 21∧op ≠ 22) by omega) with rfl | rfl | rfl | rfl | rfl | ⟨h1,h2,h3,h4,h5⟩
 case' inr.inr.inr.inr.inr =>
  have HC:=Lib.hid (show cmpB op a c=decide (c ≤ a) by unfold cmpB; rw [if_neg h1,if_neg h2,if_neg h3,if_neg h4,if_neg h5])
  have e1:(op == 18)=false:=by simpa using h1
  have e2:(op == 19)=false:=by simpa using h2
  have e3:(op == 20)=false:=by simpa using h3
  have e4:(op == 21)=false:=by simpa using h4
  have e5:(op == 22)=false:=by simpa using h5
  clear h1 h2 h3 h4 h5
 all_goals
  go_enter Tryz.func152,Tryz.ntmps152
  go_wp2
  go_ret
  exact ⟨ret_bool (by first | exact HC.out.symm | rfl),rfl⟩
end Go.Proofs.YtcoookehfhhhdaaGreatDoor.c
