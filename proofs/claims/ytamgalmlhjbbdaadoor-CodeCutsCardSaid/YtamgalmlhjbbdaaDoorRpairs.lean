/- Contract of the reference's pairs. Conditions: what right code is good for. -/
import Derived.Test.YtamgalmlhjbbdaaDoorRpts
import Derived.Deep.LoopGhost
import Derived.Test.YtamgalmlhjbbdaaDoorLookB
namespace Go.Proofs.YtamgalmlhjbbdaaDoor.c
open Go.RowKit
set_option linter.unusedVariables false
set_option linter.unusedSimpArgs false
theorem info_pair : (Tryd.prog.info? 104).map (fun i => (i.zero, i.size, i.bytes)) = some (some (.agg #[.int .i64 0, .int .i64 0]), 2, 16) := by kernel_rfl
theorem info_mapib : (Tryd.prog.info? 71).map (fun i => (i.zero, i.size, i.bytes)) = some (some (.map none), 1, 8) := by kernel_rfl
theorem info_bool : (Tryd.prog.info? 4).map (fun i => (i.zero, i.size, i.bytes)) = some (some (.bool false), 1, 1) := by kernel_rfl
set_option maxRecDepth 100000 in
set_option maxHeartbeats 6400000 in
theorem pairs_raw (f : Fc) (w : World) (hC : CdAt w f.A f.code) (sn : Sane f.code) :
    Calls Tryd.prog 52 #[.agg #[.string f.name, .int .i64 f.params, .int .i64 f.places, .int .i64 f.ty.base, .int .i64 f.ty.bits, .string f.ty.name, .bool f.ty.opt, .bool f.ty.err, .slice f.A f.code.length f.cap]] w fun e w' =>
      ∃ v S O, e = .returned (.tuple #[.slice (some ⟨w.heap.size + 1, 0, none⟩) f.code.length f.code.length, .slice (some ⟨w.heap.size + 2 + f.code.length, 0, none⟩) f.code.length f.code.length]) ∧ RfSt w w' f v S [] O ∧ RfInv f.code S [] O := by
  have hfew := sn.few
  have hpos := sn.pos
  have hmm := @run_makeMap Tryd.prog
  have hmk := fun W => run_make_row' (P := Tryd.prog) 84 71 (.map none) 8 Tryd.underlying84 info_mapib rfl .i64 .i64 f.code.length (by omega) (by omega) W
  have hmk2 := fun W => run_make_row' (P := Tryd.prog) 75 4 (.bool false) 1 Tryd.underlying75 info_bool rfl .i64 .i64 f.code.length (by omega) (by omega) W
  have HC := Lib.hid hC
  have SN := Lib.hid sn
  obtain ⟨i0, hi0, hz0, hz1, hz2⟩ := info_parts info_pair
  have HI := Lib.hid hi0; have HZ0 := Lib.hid hz0; have HZ1 := Lib.hid hz1; have HZ2 := Lib.hid hz2
  clear hC sn hi0 hz0 hz1 hz2
  obtain ⟨len, hlen⟩ : ∃ len, len = f.code.length := ⟨_, rfl⟩
  rw [← hlen] at hfew hpos hmk hmk2 ⊢
  have HLn := Lib.hid hlen
  clear hlen
  go_enter Tryd.func52, Tryd.ntmps52
  go_wp2_with fail
  go_loopw [5] (fun i wr => ∃ k : Nat, k ≤ len ∧ i = .int .i64 k ∧ MkSt w wr f k) (fun i _ => len - (intOf i).toNat)
  case atStart =>
    refine ⟨0, Nat.zero_le _, rfl, ?_⟩
    obtain rfl := HLn.out
    exact MkSt.begin f w
  case round =>
    obtain ⟨k, hk, rfl, st⟩ := hrel
    have c1 := fun j (hj : j < f.code.length) => st.row.cell hj
    have f1 := st.row.frozen k
    have z1 := st.row.lt
    have z0 := st.fbox.out.lt
    have fb := st.fbox.cells.2.2.2.2.2.2.2.2
    rw [← HLn.out] at fb
    have ST := Lib.hid st
    have SZ := Lib.hid st.sz
    clear st
    by_cases hlt : k < len
    · have c2 := c1 k (by rw [← HLn.out]; exact hlt)
      rw [if_neg (Nat.lt_irrefl k)] at c2
      clear c1
      go_wp2_with fail
      case roundEnd => exact ⟨⟨k + 1, by omega, by go_num, ST.out.next⟩, by simp [intOf]; omega⟩
    · clear c1
      obtain rfl : k = len := by omega
      clear hmm hmk f1 hk hlt
      go_wp2_with fail
      have RS : Hid (RfSt w ((wr.alloc (.cells (madeCells #[.bool false] k) 4)).alloc (.cells #[.int .i64 0, .int .i64 0] 104)) f (.slice (some ⟨wr.heap.size + 1, 0, none⟩) 1 1) [] [(0, 0)] (fun _ => false)) := by
        obtain rfl := HLn.out
        exact RfSt.begin ST.out
      rw [SZ.out] at RS ⊢
      clear ST SZ z0 z1 fb hmk2
      go_loopg [7] (rfMs f.code [] [(0, 0)]) (fun n v wr => ∃ S T O, RfSt w wr f v S T O ∧ RfInv f.code S T O ∧ rfMs f.code S T ≤ n)
      case atStart => exact ⟨_, _, _, RS.out, RfInv.start, Nat.le_refl _⟩
      case round =>
        clear RS
        obtain ⟨S, T, O, st, iv, hkk⟩ := hrel
        cases T with
        | nil =>
          obtain ⟨g, off, cap, hv, _, _, _⟩ := st.que.slice
          subst hv
          have ST := Lib.hid st
          have IV := Lib.hid iv
          clear st iv hkk
          simp only [List.length_nil]
          go_wp2_with fail
          go_ret2
          exact ⟨_, S, O, rfl, ST.out, IV.out⟩
        | cons p T =>
          have hp := iv.allT p (List.mem_cons_self ..)
          obtain ⟨i1, i2, i3, i4⟩ := hp.inb SN.out
          obtain ⟨l1, l2⟩ := iv.lens SN.out
          simp only [List.length_cons] at l2
          have HTL : Hid (T.length ≤ 300000) := by have := SN.out.few; unfold Hid; omega
          obtain ⟨x, hx⟩ : ∃ x, x = xAt f.code p := ⟨_, rfl⟩
          have hxm : x ∈ f.code := by rw [hx]; exact xAt_mem ⟨i1, i2, i3, i4⟩
          obtain ⟨t1, t2, t3⟩ := SN.out.each x hxm
          obtain ⟨g, off, cap, a2, c2, hv, hg, hob, q0, q1, hsl, hq, hob2⟩ := st.que.pop2
          obtain ⟨pa, ph⟩ := p
          simp only [] at i1 i2 i3 i4 q0 q1
          obtain ⟨n, hn⟩ : ∃ n : Nat, pa = n := ⟨pa.toNat, by omega⟩
          subst hn
          have hnk : n < k := by have := HLn.out; omega
          have hnf : n < f.code.length := by omega
          have sc := st.seenc.cell hnf
          subst hv
          have ST := Lib.hid st
          have IV := Lib.hid iv
          have HX := Lib.hid hx
          have HQ := Lib.hid hq
          clear st iv hq hp hx hxm
          generalize hnT2 : T.length = nT at *
          go_wp2_with fail
          go_quiet (fail)
          have ST : Hid (RfSt w (wr.drewN nq) f (.slice (some ⟨g, off, none⟩) (nT + 1) cap) S (((n : Int), ph) :: T) O) := ST.out.ext' ((Ext.refl _).drewN _)
          have HQ : Hid (Que (wr.drewN nq) (w.heap.size + 3 + f.code.length) (.slice a2 nT c2) T) := HQ.out.ext ((Ext.refl _).drewN _)
          have zg : g < (wr.drewN nq).heap.size := hg
          clear hg q0 q1 sc
          generalize wr.drewN nq = w9 at ST HQ zg ⊢
          have sc := ST.out.seenc.cell hnf
          have z1 := ST.out.seenc.lt
          obtain ⟨y0, y1, y2, y3, y4, y5, y6, y7, y8⟩ := ST.out.fbox.cells
          have z0 := ST.out.fbox.out.lt
          rw [← HLn.out] at y8
          obtain ⟨lk, hkey⟩ := keyOf_i (i := ph) (by omega) (by omega)
          have HK := Lib.hid hkey
          clear hkey
          by_cases hm : ((n : Int), ph) ∈ S
          · have hlk : (Instr.lookup 71 (.map (some (w.heap.size + 2 + n))) (.int .i64 ph) false).run Tryd.prog w9 = .ok (.bool true) w9 := by
              obtain ⟨m, hmm⟩ := ST.out.maps n hnf
              rw [hmm.look key_int Tryd.underlying71 zero_bool HK.out false, rowV_in hm]
              rfl
            have HM := Lib.hid hm
            clear hm
            go_wp2_with fail
            obtain ⟨e1, e2⟩ := IV.out.skip HM.out
            go_roundg (gk - 1)
            case measure => omega
            case rel => exact ⟨_, _, _, ST.out.pop HQ.out, e1, by omega⟩
          · have hlk : (Instr.lookup 71 (.map (some (w.heap.size + 2 + n))) (.int .i64 ph) false).run Tryd.prog w9 = .ok (.bool false) w9 := by
              obtain ⟨m, hmm⟩ := ST.out.maps n hnf
              rw [hmm.look key_int Tryd.underlying71 zero_bool HK.out false, rowV_out hm]
              rfl
            have HM := Lib.hid hm
            clear hm
            go_wp2_with (first
              | (at_mapUpdate
                 obtain ⟨m, hmm⟩ := ST.out.maps n hnf
                 refine wpList_store_map rfl _ _ _ 71 (.inl rfl) (V' := rowV (((n : Int), ph) :: S) (n : Int)) key_int Tryd.underlying71 hmm rfl (key := .int .i64 ph) rfl rfl HK.out (rowV_in (List.mem_cons_self ..)) (fun x hx => rowV_self hx) ?_
                 intro w1 m1 g1 s1
                 have ST := Lib.hid ((ST.out.pop HQ.out).mapped hnf rfl g1 m1)
                 clear y0 y1 y2 y3 y4 y5 y6 y7 y8 sc hlk z0 z1 zg m1 g1 s1 hmm
                 obtain ⟨y0, y1, y2, y3, y4, y5, y6, y7, y8⟩ := ST.out.fbox.cells
                 have z0 := ST.out.fbox.out.lt
                 rw [← HLn.out] at y8)
              | (go_at_call 53
                 refine (isHeight_len f HLn.out (k := n) (h := ph) (x := x) _ (HC.out.ext ST.out.ext) hnk (by omega) HX.out).mono ?_
                 rintro r w2 ⟨rfl, x2⟩
                 have ST := Lib.hid (ST.out.ext' x2)
                 clear y0 y1 y2 y3 y4 y5 y6 y7 y8 z0 x2
                 obtain ⟨y0, y1, y2, y3, y4, y5, y6, y7, y8⟩ := ST.out.fbox.cells
                 have z0 := ST.out.fbox.out.lt
                 rw [← HLn.out] at y8)
              | (go_at_call 70
                 refine (ways_at f HLn.out (k := n) (h := ph) (x := x) _ (HC.out.ext ST.out.ext) hnk hfew HX.out (show okH x ph = true from by simpa using (show (!okH x ph) = false by assumption)) t1).mono ?_
                 rintro r w3 ⟨vL, rfl, x3, pr⟩
                 have ST2 := Lib.hid ST.out.sz
                 have QB : Hid (∀ k, (Value.slice a2 nT c2).ownBlock = some k → k < w2.heap.size) := fun k e => (ST.out.que.block e).2
                 have ST := Lib.hid (ST.out.ext' x3)
                 have PR := Lib.hid pr
                 clear y0 y1 y2 y3 y4 y5 y6 y7 y8 z0 x3 pr))
            · have h7 : (!okH x ph) = true := by assumption
              have ok : okH (xAt f.code ((n : Int), ph)) ph = false := by rw [← HX.out]; simpa using h7
              obtain ⟨e1, e2⟩ := IV.out.wrong SN.out HM.out ok
              go_roundg (gk - 1)
              case measure => omega
              case rel => exact ⟨_, _, _, ST.out, e1, by omega⟩
            · have h7 : (!okH x ph) = false := by assumption
              have ok : okH (xAt f.code ((n : Int), ph)) ph = true := by rw [← HX.out]; simpa using h7
              obtain ⟨e1, e2⟩ := IV.out.on SN.out HM.out ok
              obtain ⟨L, hL⟩ : ∃ L, L = waysS f.code ((n : Int), ph) := ⟨_, rfl⟩
              rw [← hL] at e1 e2 PR
              have HL := Lib.hid hL
              have E1 := Lib.hid e1
              have E2 := Lib.hid e2
              clear e1 e2 hL ok h7
              rcases PR.out with ⟨hL0, hv⟩ | ⟨gl, hv, hgl, hB⟩
              · subst hv
                subst hL0
                clear PR HL HQ
                have E1 : Hid (RfInv f.code (((n : Int), ph) :: S) T O) := by
                  have := E1.out
                  rw [show outB f.code [] = false from rfl, setO_false, show newsS f.code [] = [] from rfl, List.append_nil] at this
                  exact this
                have E2 : Hid (rfMs f.code (((n : Int), ph) :: S) T < rfMs f.code S (((n : Int), ph) :: T)) := by
                  have := E2.out
                  rw [show newsS f.code [] = [] from rfl, List.append_nil] at this
                  exact this
                go_wp2_with fail
                go_loopw [7, 11] (fun v i wr => i = .int .i64 0 ∧ v = .slice a2 nT c2 ∧ RfSt w wr f (.slice a2 nT c2) (((n : Int), ph) :: S) T O) (fun _ _ _ => 0)
                case atStart => exact ⟨rfl, rfl, ST.out⟩
                case round =>
                  obtain ⟨rfl, rfl, st⟩ := hrel
                  have ST3 := Lib.hid st
                  clear ST ST2 st
                  go_wp2_with fail
                  have e2 := E2.out
                  go_roundg (gk - 1)
                  case measure => omega
                  case rel => exact ⟨_, _, _, ST3.out, E1.out, by omega⟩
              · subst hv
                have HB := Lib.hid hB
                have hgl2 : w.heap.size + 4 + k ≤ gl := by have := ST2.out; have := HLn.out; omega
                have HGL : Hid (w2.heap.size ≤ gl) := hgl
                have hL2 : L.length ≤ 2 := by rw [HL.out]; exact ways_len _ _
                have hN2 : ∀ j, (newsS f.code (L.take j)).length ≤ 2 := fun j => Nat.le_trans (List.length_filter_le _ _) (Nat.le_trans (List.length_take_le' _ _) hL2)
                have HN2 := Lib.hid hN2
                clear hB PR HL HQ hgl hN2
                obtain ⟨nL, hnL⟩ : ∃ nL, nL = L.length := ⟨_, rfl⟩
                rw [← hnL] at hL2 ⊢
                have HNL := Lib.hid hnL
                clear hnL
                go_wp2_with fail
                go_loopw [7, 11] (fun v i wr => ∃ j : Nat, j ≤ nL ∧ i = .int .i64 j ∧ RfSt w wr f v (((n : Int), ph) :: S) (T ++ newsS f.code (L.take j)) (setO O n (outB f.code (L.take j))) ∧ Blk wr gl 104 (qcells L).toArray ∧ v.ownBlock ≠ some gl) (fun _ i _ => nL - (intOf i).toNat)
                case atStart =>
                  refine ⟨0, Nat.zero_le _, rfl, ?_, HB.out, fun e => by have := QB.out _ e; have := HGL.out; omega⟩
                  rw [List.take_zero, show outB f.code [] = false from rfl, setO_false, show newsS f.code [] = [] from rfl, List.append_nil]
                  exact ST.out
                case round =>
                  obtain ⟨j, hj, rfl, st, hb, hne⟩ := hrel
                  have ST3 := Lib.hid st
                  have HB3 := Lib.hid hb
                  have HNE := Lib.hid hne
                  have z0 := st.fbox.out.lt
                  have y8 := st.fbox.cells.2.2.2.2.2.2.2.2
                  have zl := hb.lt
                  rw [← HLn.out] at y8
                  clear ST ST2 QB HB HGL st hb hne
                  by_cases hlt : j < nL
                  · obtain ⟨q, hq⟩ : ∃ q, q = L.getD j (0, 0) := ⟨_, rfl⟩
                    obtain ⟨u0, u1⟩ := qcells_get L j (by rw [← HNL.out]; exact hlt)
                    rw [← hq] at u0 u1
                    have d0 := HB3.out.cell (j * 2)
                    have d1 := HB3.out.cell (j * 2 + 1)
                    rw [List.getElem?_toArray, u0] at d0
                    rw [List.getElem?_toArray, u1] at d1
                    have HT := Lib.hid (news_take f.code L j (by rw [← HNL.out]; exact hlt) hq)
                    obtain ⟨qa, qh⟩ := q
                    have HQ2 := Lib.hid hq
                    clear u0 u1 hq
                    simp only [] at d0 d1
                    go_wp2_with fail
                    go_quiet (fail)
                    have ST4 : Hid (RfSt w (wr.drewN nq) f _ _ _ _) := ST3.out.ext' ((Ext.refl _).drewN _)
                    have HB4 : Hid (Blk (wr.drewN nq) gl _ _) := HB3.out.drewN _
                    clear ST3 HB3 d0 d1 z0 y8 zl
                    generalize wr.drewN nq = w5 at ST4 HB4 ⊢
                    have zl := HB4.out.lt
                    have d0 := HB4.out.cell (j * 2)
                    have d1 := HB4.out.cell (j * 2 + 1)
                    obtain ⟨u0, u1⟩ := qcells_get L j (by rw [← HNL.out]; exact hlt)
                    rw [← HQ2.out] at u0 u1
                    rw [List.getElem?_toArray, u0] at d0
                    rw [List.getElem?_toArray, u1] at d1
                    clear u0 u1
                    simp only [] at d0 d1
                    have m0 := ST4.out.outc.cell hnf
                    have m1 := ST4.out.outc.frozen n
                    have m2 := ST4.out.outc.lt
                    rw [← HLn.out] at m0 m1 m2
                    go_wp2_with (first
                      | (at_builtin
                         refine wpList_push rfl _ _ 105 rfl 104 i0 _ Tryd.underlying105 HI.out HZ0.out HZ1.out HZ2.out rfl (ST4.out.alloc _).que rfl (by rw [List.length_append]; have := HN2.out j; have := HTL.out; omega) ⟨w5.heap.size, 0, none⟩ 1 qa qh rfl (World.news_of_block (cs := #[.int .i64 qa, .int .i64 qh]) (heap_alloc_new w5 _)) (by have := (ST4.out.alloc (.cells #[.int .i64 qa, .int .i64 qh] 104)).sz; omega) ?_
                         intro v6 w6 q6 g6 o6
                         have Q6 := Lib.hid q6
                         have G6 := Lib.hid g6
                         have O6 := Lib.hid o6
                         clear q6 g6 o6 d0 d1 m0 m1 m2 zl))
                    case roundEnd =>
                      have h8 : (k : Int) ≤ qa := by assumption
                      refine ⟨⟨j + 1, by omega, by go_num, ?_, HB4.out.far (by first | (simp; done) | (simp; omega)) _, HNE.out⟩, by simp [intOf]; omega⟩
                      have h9 := HT.out
                      rw [if_neg (by have := HLn.out; omega), decide_eq_false (by have := HLn.out; omega), List.append_nil] at h9
                      rw [h9.1, h9.2, Bool.not_false, setO_or, show w.heap.size + 2 + k = w.heap.size + 2 + f.code.length by rw [← HLn.out]]
                      exact ST4.out.marked hnf rfl
                    case roundEnd =>
                      have h8 : qa < (k : Int) := by assumption
                      refine ⟨⟨j + 1, by omega, by go_num, ?_, (HB4.out.alloc _).grown G6.out (fun e => HNE.out e.symm), ?_⟩, by simp [intOf]; omega⟩
                      · have h9 := HT.out
                        rw [if_pos (by have := HLn.out; omega), decide_eq_true (by have := HLn.out; omega)] at h9
                        rw [h9.1, h9.2, Bool.not_true, Bool.or_false, ← List.append_assoc]
                        have := (ST4.out.alloc _).pushed G6.out Q6.out
                        exact this
                      · rcases O6.out with e | ⟨g', e, hg'⟩
                        · rw [e]; exact HNE.out
                        · rw [e]; intro e2; have := Option.some.inj e2; have := HB4.out.lt; simp at hg'; omega
                  · obtain rfl : j = nL := by omega
                    go_wp2_with fail
                    have e1 := E1.out
                    have e2 := E2.out
                    have st := ST3.out
                    rw [List.take_of_length_le (by have := HNL.out; omega)] at st
                    go_roundg (gk - 1)
                    case measure => omega
                    case rel => exact ⟨_, _, _, st, e1, by omega⟩
/-- what pairs leaves: row gs of maps from block gm on, row go of marks; S: the points, O: the marks -/
structure Pairs (w w' : World) (c : List Cd) (gs gm go : Nat) (S : List (Int × Int)) (O : Int → Bool) : Prop where
  ext : Ext w w'
  new : w.heap.size ≤ gs ∧ w.heap.size ≤ gm ∧ w.heap.size ≤ go
  seenc : RowAt w' gs 71 c.length (fun j => .map (some (gm + j)))
  maps : ∀ i, i < c.length → ∃ m, MapAt w' 3 (gm + i) m (rowV S i)
  outc : RowAt w' go 4 c.length (fun j => .bool (O j))
  all : ∀ q, q ∈ S ↔ Reach c q
  bad : ∀ i, BadIn c (Reach c) i ↔ ((∃ h, (i, h) ∈ S ∧ okH (xAt c (i, h)) h = false) ∨ (∃ h k, h ≠ k ∧ (i, h) ∈ S ∧ (i, k) ∈ S) ∨ O i = true)
theorem Pairs.ext' {w w' w2 : World} {c : List Cd} {gs gm go : Nat} {S : List (Int × Int)} {O : Int → Bool} (p : Pairs w w' c gs gm go S O) (x : Ext w' w2) : Pairs w w2 c gs gm go S O :=
  ⟨p.ext.trans x, p.new, p.seenc.ext x, fun i hi => let ⟨m, hm⟩ := p.maps i hi; ⟨m, hm.ext x⟩, p.outc.ext x, p.all, p.bad⟩
theorem pairs_any (f : Fc) (w : World) (hC : CdAt w f.A f.code) (sn : Sane f.code) :
    Calls Tryd.prog 52 #[.agg #[.string f.name, .int .i64 f.params, .int .i64 f.places, .int .i64 f.ty.base, .int .i64 f.ty.bits, .string f.ty.name, .bool f.ty.opt, .bool f.ty.err, .slice f.A f.code.length f.cap]] w fun e w' =>
      ∃ gs gm go S O, e = .returned (.tuple #[.slice (some ⟨gs, 0, none⟩) f.code.length f.code.length, .slice (some ⟨go, 0, none⟩) f.code.length f.code.length]) ∧ Pairs w w' f.code gs gm go S O := by
  refine (pairs_raw f w hC sn).mono ?_
  rintro e w' ⟨v, S, O, rfl, st, iv⟩
  exact ⟨_, w.heap.size + 2, _, S, O, rfl, st.ext, ⟨by omega, by omega, by omega⟩, st.seenc, st.maps, st.outc, iv.end_.1, iv.end_.2⟩
theorem pairs_len (f : Fc) {len : Nat} (hl : len = f.code.length) (w : World) (hC : CdAt w f.A f.code) (sn : Sane f.code) :
    Calls Tryd.prog 52 #[.agg #[.string f.name, .int .i64 f.params, .int .i64 f.places, .int .i64 f.ty.base, .int .i64 f.ty.bits, .string f.ty.name, .bool f.ty.opt, .bool f.ty.err, .slice f.A len f.cap]] w fun e w' =>
      ∃ gs gm go S O, e = .returned (.tuple #[.slice (some ⟨gs, 0, none⟩) len len, .slice (some ⟨go, 0, none⟩) len len]) ∧ Pairs w w' f.code gs gm go S O := by
  subst hl
  exact pairs_any f w hC sn
end Go.Proofs.YtamgalmlhjbbdaaDoor.c
