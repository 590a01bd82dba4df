-- Written by sprint.py, a program of this session's, over the kit's print. Not trusted: Lean checks it.
import Derived.Test.YtghikmnjccgchaaSFnExactOrderOfx0
import Derived.Test.YtghikmnjccgchaaSFnExactOrderOfx3
namespace Go.Proofs.Ytghikmnjccgchaa.SFnExactOrderOf
open Go.RowKit Go.Proofs.YtghikmnjccgchaaW.PrintWords Go.Proofs.YtghikmnjccgchaaW.PrintLast Go.Proofs.YtghikmnjccgchaaW.PrintMore
attribute [local go_sem] max2_int min2_int max_two min_two max_three min_three max_four min_four   -- for this text's walks alone
set_option linter.unusedVariables false
set_option linter.unusedSimpArgs false

/-! ### impl_OrderOf: function 35 -/
def impl_OrderOf.l0 : Nat → Int → Int → Int → Int → Int → Int → Int → Option (Int × Bool)
  | 0, _, _, _, _, _, _, _ => none
  | k + 1, n, p, d, ax, ay, x, y => if (!(x == 0) || (!(y == 1))) = true then ((impl_addPoints.f k p d x y ax ay).bind fun b => (impl_OrderOf.l0 k (wrap64 (n + 1)) p d ax ay b.1 b.2)) else (some (n, true))
def impl_OrderOf.f (k : Nat) (p : Int) (d : Int) (ax : Int) (ay : Int) : Option (Int × Bool) := (impl_arePoints.f k p d [(⟨ax, ay⟩ : S29)]).bind fun t => (if t = true then (impl_OrderOf.l0 k 1 p d ax ay ax ay) else (some (0, false)))
theorem impl_OrderOf.mono_l : ∀ k, (∀ y0 y1 y2 y3 y4 y5 y6, LeO (impl_OrderOf.l0 k y0 y1 y2 y3 y4 y5 y6) (impl_OrderOf.l0 (k + 1) y0 y1 y2 y3 y4 y5 y6))
  | 0 => fun _ _ _ _ _ _ _ r h => by simp [impl_OrderOf.l0] at h
  | k + 1 => by
    have ih0 := impl_OrderOf.mono_l k
    intro y0 y1 y2 y3 y4 y5 y6
    unfold impl_OrderOf.l0
    refine LeO.ite ?_ (LeO.refl _)
    exact LeO.bind (impl_addPoints.mono _ _ _ _ _ _ _) (fun _ => ih0 _ _ _ _ _ _ _)
theorem impl_OrderOf.mono : ∀ a0 a1 a2 a3 k, LeO (impl_OrderOf.f k a0 a1 a2 a3) (impl_OrderOf.f (k + 1) a0 a1 a2 a3) := by
  intro a0 a1 a2 a3 k
  unfold impl_OrderOf.f
  exact LeO.bind (impl_arePoints.mono _ _ _ _) (fun _ => LeO.ite (impl_OrderOf.mono_l k _ _ _ _ _ _ _) (LeO.refl _))
set_option maxHeartbeats 8000000 in
set_option maxRecDepth 100000 in
theorem impl_OrderOf.calls (k : Nat) (p : Int) (d : Int) (ax : Int) (ay : Int) (r1 : Int) (r2 : Bool) (w : World) (h : impl_OrderOf.f k p d ax ay = some (r1, r2)) :
    Calls Try.prog 35 #[.agg #[.int .i64 p, .int .i64 d], .agg #[.int .i64 ax, .int .i64 ay]] w fun e w' => e = .returned (.tuple #[.int .i64 r1, .bool r2]) ∧ Below w.heap.size w w' := by
  unfold impl_OrderOf.f at h
  obtain ⟨t, ht, h⟩ := Option.bind_eq_some_iff.mp h
  have HT := Aside0.mk ht
  clear ht
  have hb0 : Below w.heap.size w ((w.alloc (.cells #[.int .i64 p, .int .i64 d] 25)).alloc (.cells #[.int .i64 ax, .int .i64 ay] 29)) := by
    refine Below.alloc ?_ (below_size (Below.alloc (Below.refl _ _) (Nat.le_refl _) _)) _
    exact Below.alloc (Below.refl _ _) (Nat.le_refl _) _
  have hg2 : ((w.alloc (.cells #[.int .i64 p, .int .i64 d] 25)).alloc (.cells #[.int .i64 ax, .int .i64 ay] 29)).heap[w.heap.size]? = some (.cells #[.int .i64 p, .int .i64 d] 25 (0, 0)) := blk_alloc (blk_new _ _) _
  have hg3 : ((w.alloc (.cells #[.int .i64 p, .int .i64 d] 25)).alloc (.cells #[.int .i64 ax, .int .i64 ay] 29)).heap[w.heap.size + 1]? = some (.cells #[.int .i64 ax, .int .i64 ay] 29 (0, 0)) := by
    have e := blk_new (w.alloc (.cells #[.int .i64 p, .int .i64 d] 25)) (.cells #[.int .i64 ax, .int .i64 ay] 29)
    have es : (w.alloc (.cells #[.int .i64 p, .int .i64 d] 25)).heap.size = w.heap.size + 1 := by show (w.heap.push _).size = _; simp
    rw [es] at e
    exact e
  have HB0 := Aside0.mk hb0
  have HG2 := Aside0.mk hg2
  have HG3 := Aside0.mk hg3
  clear hb0 hg2 hg3
  cases t with
  | true =>
    rw [if_pos rfl] at h
    have H := Aside0.mk h
    clear h
    go_enter Try.func35, Try.ntmps35
    go_wp2_with ((with_reducible refine gate_dst (N := 10) rfl ?_); refine Kd.R_lit k29 _ 29 ?hg (N := 10) ?hd (xs := ([(⟨ax, ay⟩ : S29)] : List (S29))) (inner := [.int .i64 ax, .int .i64 ay]) (ok := fun _ => True) (okp := fun _ => True) ?hr ?hp (fun _ hk => hk) trivial (Below.refl _ _) (Nat.le_refl _) (by simp) ?_; (case hd => rfl); (case hg => rfl); (case hr => first | (go_simp; done) | (go_simp; rfl)); (case hp => exact (Reps.c2 (show Kd.M k29 _ _ _ (⟨ax, ay⟩ : S29) [.int .i64 ax, .int .i64 ay] from (k29_mkM _ _ _ (⟨ax, ay⟩ : S29) )) (Reps.none _ _))); intro v142 w10 ho11 hb hg_ hnew_; clear hg_ hnew_; have HO := Aside0.mk ho11; have HB1 := Aside0.mk (below_step HB0.out hb); have HC1 := Aside0.mk (blk_below HG2.out hb); have HA1 := Aside0.mk (blk_below HG3.out hb); clear hb ho11 HB0 HG2 HG3; obtain ⟨Ao12, co12, eo12⟩ := Kd.R_slice HO.out; subst eo12)
    refine (impl_arePoints.calls k p d _ _ [(⟨ax, ay⟩ : S29)] true _ (Kd.R_reads' HO.out).2.2 (Kd.R_reads' HO.out).2.1 HT.out).mono ?_
    rintro e w1 ⟨rfl, hb⟩
    have HB1 := Aside0.mk (below_step HB1.out hb)
    have HC := Aside0.mk (blk_below HC1.out hb)
    have HA := Aside0.mk (blk_below HA1.out hb)
    clear HO HC1 HA1
    have g3lt : w.heap.size + 1 < w1.heap.size := blk_lt HA.out
    obtain ⟨g, hg⟩ : ∃ g, w.heap.size = g := ⟨_, rfl⟩
    rw [hg] at HB1 HC HA g3lt ⊢
    have c1 : w1.cell? ⟨g, 0, none⟩ = some (.int .i64 p) := (blk_cell HC.out 0).trans rfl
    have c2 : w1.cell? ⟨g, 1, none⟩ = some (.int .i64 d) := (blk_cell HC.out 1).trans rfl
    have c3 : w1.cell? ⟨g + 1, 0, none⟩ = some (.int .i64 ax) := (blk_cell HA.out 0).trans rfl
    have c4 : w1.cell? ⟨g + 1, 1, none⟩ = some (.int .i64 ay) := (blk_cell HA.out 1).trans rfl
    clear hb
    go_wp2_with fail
    have HB2 := Aside0.mk (Below.alloc HB1.out (by omega : g ≤ w1.heap.size) (.cells #[.int .i64 ax, .int .i64 ay] 29))
    go_loopg [6, 7] k (fun kq v6 v7 w' => ∃ (n : Int) (gb : Nat) (x y : Int), v6 = .int .i64 n ∧ v7 = .pointer (some ⟨gb, 0, none⟩) ∧ Aside0 (impl_OrderOf.l0 kq n p d ax ay x y = some (r1, r2)) ∧ Aside0 (kq ≤ k) ∧ Aside0 (w'.heap[g]? = some (.cells #[.int .i64 p, .int .i64 d] 25 (0, 0))) ∧ Aside0 (w'.heap[g + 1]? = some (.cells #[.int .i64 ax, .int .i64 ay] 29 (0, 0))) ∧ Aside0 (w'.heap[gb]? = some (.cells #[.int .i64 x, .int .i64 y] 29 (0, 0))) ∧ Aside0 (g + 1 < gb) ∧ Aside0 (Below g w w'))
    case atStart => exact ⟨1, w1.heap.size, ax, ay, rfl, rfl, H, ⟨Nat.le_refl _⟩, ⟨blk_alloc HC.out _⟩, ⟨blk_alloc HA.out _⟩, ⟨blk_new _ _⟩, ⟨g3lt⟩, HB2⟩
    case round =>
      clear H HB1 HB2 HC HA c1 c2 c3 c4 g3lt
      obtain ⟨n, gb, x, y, rfl, rfl, HA, HK1, HC2, HA2, HX, HGB, HB⟩ := hrel
      cases gk with
      | zero => exact absurd HA.out (by simp [impl_OrderOf.l0])
      | succ k1 =>
        have H := HA.out
        clear HA
        simp only [impl_OrderOf.l0] at H
        have c1 : wr.cell? ⟨g, 0, none⟩ = some (.int .i64 p) := (blk_cell HC2.out 0).trans rfl
        have c2 : wr.cell? ⟨g, 1, none⟩ = some (.int .i64 d) := (blk_cell HC2.out 1).trans rfl
        have c3 : wr.cell? ⟨g + 1, 0, none⟩ = some (.int .i64 ax) := (blk_cell HA2.out 0).trans rfl
        have c4 : wr.cell? ⟨g + 1, 1, none⟩ = some (.int .i64 ay) := (blk_cell HA2.out 1).trans rfl
        have c5 : wr.cell? ⟨gb, 0, none⟩ = some (.int .i64 x) := (blk_cell HX.out 0).trans rfl
        have c6 : wr.cell? ⟨gb, 1, none⟩ = some (.int .i64 y) := (blk_cell HX.out 1).trans rfl
        have l1 := blk_lt HA2.out
        have l2 := blk_lt HC2.out
        have l3 := blk_lt HX.out
        by_cases c16 : (!(x == 0) || (!(y == 1))) = true
        · rw [if_pos c16] at H
          obtain ⟨⟨u, v⟩, hadd, H⟩ := Option.bind_eq_some_iff.mp H
          have HAD := Aside0.mk hadd
          have H' := Aside0.mk H
          clear H hadd
          rcases Classical.em (x = 0) with rfl | hx
          · have hy : ¬ (y = 1) := by simpa using c16
            clear c16
            go_wp2_with fail
            with_reducible refine Calls.mono (impl_addPoints.calls k1 p d _ y ax ay u v _ HAD.out) ?_
            rintro e w2 ⟨rfl, hb⟩
            have HN := Aside0.mk (blk_below HX.out hb)
            have HC3 := Aside0.mk (blk_below HC2.out hb)
            have HA3 := Aside0.mk (blk_below HA2.out hb)
            have HB3 := Aside0.mk (below_then HB.out (Nat.le_of_lt l2) hb)
            have n1 : w2.cell? ⟨gb, 0, none⟩ = some _ := (blk_cell HN.out 0).trans rfl
            have n2 : w2.cell? ⟨gb, 1, none⟩ = some _ := (blk_cell HN.out 1).trans rfl
            have f1 := blk_frozen HN.out 0
            have f2 := blk_frozen HN.out 1
            have l4 := blk_lt HN.out
            have l5 := blk_lt HA3.out
            have g1 := HGB.out
            clear hb
            go_wp2_with fail
            go_roundg k1
            case measure => have := HK1.out; omega
            case rel =>
              have s1 : ∀ u v : Value, ((w2.setCell ⟨gb, 0, none⟩ u).setCell ⟨gb, 1, none⟩ v).heap.size = w2.heap.size := fun u v => by simp [World.setCell]
              have e := blk_new ((w2.setCell ⟨gb, 0, none⟩ (.int .i64 u)).setCell ⟨gb, 1, none⟩ (.int .i64 v)) (.cells #[.int .i64 u, .int .i64 v] 29)
              rw [s1] at e
              exact ⟨wrap64 (n + 1), w2.heap.size, u, v, rfl, rfl, H', ⟨by have := HK1.out; omega⟩, ⟨blk_alloc (blk_far (blk_far HC3.out (p := ⟨gb, 0, none⟩) (by show g ≠ gb; omega) _) (p := ⟨gb, 1, none⟩) (by show g ≠ gb; omega) _) _⟩, ⟨blk_alloc (blk_far (blk_far HA3.out (p := ⟨gb, 0, none⟩) (by show g + 1 ≠ gb; omega) _) (p := ⟨gb, 1, none⟩) (by show g + 1 ≠ gb; omega) _) _⟩, ⟨e⟩, ⟨l5⟩, ⟨Below.alloc ((HB3.out.setCell (p := ⟨gb, 0, none⟩) (by show g ≤ gb; omega) _).setCell (p := ⟨gb, 1, none⟩) (by show g ≤ gb; omega) _) (by rw [s1]; omega) _⟩⟩
          · clear c16
            go_wp2_with fail
            with_reducible refine Calls.mono (impl_addPoints.calls k1 p d _ y ax ay u v _ HAD.out) ?_
            rintro e w2 ⟨rfl, hb⟩
            have HN := Aside0.mk (blk_below HX.out hb)
            have HC3 := Aside0.mk (blk_below HC2.out hb)
            have HA3 := Aside0.mk (blk_below HA2.out hb)
            have HB3 := Aside0.mk (below_then HB.out (Nat.le_of_lt l2) hb)
            have n1 : w2.cell? ⟨gb, 0, none⟩ = some _ := (blk_cell HN.out 0).trans rfl
            have n2 : w2.cell? ⟨gb, 1, none⟩ = some _ := (blk_cell HN.out 1).trans rfl
            have f1 := blk_frozen HN.out 0
            have f2 := blk_frozen HN.out 1
            have l4 := blk_lt HN.out
            have l5 := blk_lt HA3.out
            have g1 := HGB.out
            clear hb
            go_wp2_with fail
            go_roundg k1
            case measure => have := HK1.out; omega
            case rel =>
              have s1 : ∀ u v : Value, ((w2.setCell ⟨gb, 0, none⟩ u).setCell ⟨gb, 1, none⟩ v).heap.size = w2.heap.size := fun u v => by simp [World.setCell]
              have e := blk_new ((w2.setCell ⟨gb, 0, none⟩ (.int .i64 u)).setCell ⟨gb, 1, none⟩ (.int .i64 v)) (.cells #[.int .i64 u, .int .i64 v] 29)
              rw [s1] at e
              exact ⟨wrap64 (n + 1), w2.heap.size, u, v, rfl, rfl, H', ⟨by have := HK1.out; omega⟩, ⟨blk_alloc (blk_far (blk_far HC3.out (p := ⟨gb, 0, none⟩) (by show g ≠ gb; omega) _) (p := ⟨gb, 1, none⟩) (by show g ≠ gb; omega) _) _⟩, ⟨blk_alloc (blk_far (blk_far HA3.out (p := ⟨gb, 0, none⟩) (by show g + 1 ≠ gb; omega) _) (p := ⟨gb, 1, none⟩) (by show g + 1 ≠ gb; omega) _) _⟩, ⟨e⟩, ⟨l5⟩, ⟨Below.alloc ((HB3.out.setCell (p := ⟨gb, 0, none⟩) (by show g ≤ gb; omega) _).setCell (p := ⟨gb, 1, none⟩) (by show g ≤ gb; omega) _) (by rw [s1]; omega) _⟩⟩
        · rw [if_neg c16] at H
          obtain ⟨rfl, rfl⟩ : x = 0 ∧ y = 1 := by simpa using c16
          clear c16
          obtain ⟨rfl, rfl⟩ := Prod.mk.inj (Option.some.inj H)
          clear H
          go_wp2
          go_ret2
          exact ⟨rfl, by rw [hg]; exact HB.out⟩
  | false =>
    rw [if_neg (by simp)] at h
    obtain ⟨rfl, rfl⟩ := Prod.mk.inj (Option.some.inj h)
    clear h
    go_enter Try.func35, Try.ntmps35
    go_wp2_with ((with_reducible refine gate_dst (N := 10) rfl ?_); refine Kd.R_lit k29 _ 29 ?hg (N := 10) ?hd (xs := ([(⟨ax, ay⟩ : S29)] : List (S29))) (inner := [.int .i64 ax, .int .i64 ay]) (ok := fun _ => True) (okp := fun _ => True) ?hr ?hp (fun _ hk => hk) trivial (Below.refl _ _) (Nat.le_refl _) (by simp) ?_; (case hd => rfl); (case hg => rfl); (case hr => first | (go_simp; done) | (go_simp; rfl)); (case hp => exact (Reps.c2 (show Kd.M k29 _ _ _ (⟨ax, ay⟩ : S29) [.int .i64 ax, .int .i64 ay] from (k29_mkM _ _ _ (⟨ax, ay⟩ : S29) )) (Reps.none _ _))); intro v142 w10 ho11 hb hg_ hnew_; clear hg_ hnew_; have HO := Aside0.mk ho11; have HB1 := Aside0.mk (below_step HB0.out hb); have HC1 := Aside0.mk (blk_below HG2.out hb); have HA1 := Aside0.mk (blk_below HG3.out hb); clear hb ho11 HB0 HG2 HG3; obtain ⟨Ao12, co12, eo12⟩ := Kd.R_slice HO.out; subst eo12)
    refine (impl_arePoints.calls k p d _ _ [(⟨ax, ay⟩ : S29)] false _ (Kd.R_reads' HO.out).2.2 (Kd.R_reads' HO.out).2.1 HT.out).mono ?_
    rintro e w1 ⟨rfl, hb⟩
    have HB1 := Aside0.mk (below_step HB1.out hb)
    clear hb
    go_wp2_with fail
    go_ret2
    exact ⟨rfl, HB1.out⟩


/-! ### laws_FnExactOrderOf: function 12 -/
def laws_FnExactOrderOf.f (k : Nat) (a0_0 : Int) (a0_1 : Int) (a1_0 : Int) (a1_1 : Int) : Option (Bool) := (laws_toCurve.f a0_0 a0_1).bind fun bt141 => ((laws_toPoint.f a1_0 a1_1).bind fun bt143 => ((spec_OrderOf.f k bt141.1 bt141.2 bt143.1 bt143.2).bind fun bt145 => ((laws_toCurve.f a0_0 a0_1).bind fun bt147 => ((laws_toPoint.f a1_0 a1_1).bind fun bt149 => ((impl_OrderOf.f k bt147.1 bt147.2 bt149.1 bt149.2).bind fun bt151 => (if bt151.1 = bt145.1 then (if (bt151.2 != bt145.2) = true then (none) else (some true)) else (none)))))))
theorem laws_FnExactOrderOf.mono : ∀ a0 a1 a2 a3 k, LeO (laws_FnExactOrderOf.f k a0 a1 a2 a3) (laws_FnExactOrderOf.f (k + 1) a0 a1 a2 a3) := by
  intro a0 a1 a2 a3 k
  unfold laws_FnExactOrderOf.f
  repeat' first
      | (with_reducible exact impl_OrderOf.mono _ _ _ _ _)
      | (with_reducible exact spec_OrderOf.mono _ _ _ _ _)
      | (with_reducible exact LeO.refl _)
      | (with_reducible exact LeO.none _)
      | (with_reducible refine LeO.ite ?_ ?_)
      | (with_reducible refine LeO.bind ?_ (fun _ => ?_))
      | exact impl_OrderOf.mono _ _ _ _ _
      | exact spec_OrderOf.mono _ _ _ _ _
      | exact LeO.none _
      | refine LeO.ite ?_ ?_
      | refine LeO.bind ?_ (fun _ => ?_)
def laws_FnExactOrderOf.T1 : Bool × List (List Nat × List Nat) := (true, [([], []), ([0], [0]), ([], []), ([2, 1], [2]), ([1, 3, 3], [1, 3]), ([4], [4]), ([5], [5]), ([5], [5]), ([6, 4, 0, 1, 2, 3, 4, 5, 6], [6]), ([7, 8, 0, 1, 2, 3, 4, 5, 6, 7, 8], [7])])
def laws_FnExactOrderOf.B1 : List Nat := [0, 1, 0, 7, 15, 31, 63, 63, 127, 511]
theorem laws_FnExactOrderOf.tab1 : rtab .any (opsOf Try.f12 1) = laws_FnExactOrderOf.T1 := by kernel_rfl
theorem laws_FnExactOrderOf.bits1 : waitsOk laws_FnExactOrderOf.T1.2 laws_FnExactOrderOf.B1 = true := by kernel_rfl
def laws_FnExactOrderOf.T2 : Bool × List (List Nat × List Nat) := (true, [([], []), ([0], [0]), ([], []), ([2, 1], [2]), ([1, 3, 3], [1, 3]), ([4], [4]), ([5], [5]), ([5], [5]), ([6, 4, 0, 1, 2, 3, 4, 5, 6], [6]), ([7, 8, 0, 1, 2, 3, 4, 5, 6, 7, 8], [7])])
def laws_FnExactOrderOf.B2 : List Nat := [0, 1, 0, 7, 15, 31, 63, 63, 127, 511]
theorem laws_FnExactOrderOf.tab2 : rtab .any (opsOf Try.f12 2) = laws_FnExactOrderOf.T2 := by kernel_rfl
theorem laws_FnExactOrderOf.bits2 : waitsOk laws_FnExactOrderOf.T2.2 laws_FnExactOrderOf.B2 = true := by kernel_rfl
set_option maxHeartbeats 8000000 in
set_option maxRecDepth 100000 in
theorem laws_FnExactOrderOf.calls (k : Nat) (a0_0 : Int) (a0_1 : Int) (a1_0 : Int) (a1_1 : Int) (r : Bool) (w : World) (h : laws_FnExactOrderOf.f k a0_0 a0_1 a1_0 a1_1 = some r) :
    Calls Try.prog 12 #[.agg #[.int .i64 a0_0, .int .i64 a0_1], .agg #[.int .i64 a1_0, .int .i64 a1_1]] w fun e w' => e = .returned (.bool r) ∧ Below w.heap.size w w' := by
  have hu23 := Try.underlying23
  have hu33 := Try.underlying33
  have HB := Aside0.mk (Below.refl w.heap.size w)
  have H : ((laws_toCurve.f a0_0 a0_1).bind fun bt141 => ((laws_toPoint.f a1_0 a1_1).bind fun bt143 => ((spec_OrderOf.f k bt141.1 bt141.2 bt143.1 bt143.2).bind fun bt145 => ((laws_toCurve.f a0_0 a0_1).bind fun bt147 => ((laws_toPoint.f a1_0 a1_1).bind fun bt149 => ((impl_OrderOf.f k bt147.1 bt147.2 bt149.1 bt149.2).bind fun bt151 => (if bt151.1 = bt145.1 then (if (bt151.2 != bt145.2) = true then (none) else (some true)) else (none)))))))) = some r := h
  clear h
  replace H := Option.bind_eq_some_iff.mp H
  obtain ⟨⟨t141, t142⟩, A30, H⟩ := H
  replace H : ((laws_toPoint.f a1_0 a1_1).bind fun bt143 => ((spec_OrderOf.f k t141 t142 bt143.1 bt143.2).bind fun bt145 => ((laws_toCurve.f a0_0 a0_1).bind fun bt147 => ((laws_toPoint.f a1_0 a1_1).bind fun bt149 => ((impl_OrderOf.f k bt147.1 bt147.2 bt149.1 bt149.2).bind fun bt151 => (if bt151.1 = bt145.1 then (if (bt151.2 != bt145.2) = true then (none) else (some true)) else (none))))))) = some r := H
  have A3 := Aside0.mk A30
  clear A30
  replace H := Option.bind_eq_some_iff.mp H
  obtain ⟨⟨t143, t144⟩, A40, H⟩ := H
  replace H : ((spec_OrderOf.f k t141 t142 t143 t144).bind fun bt145 => ((laws_toCurve.f a0_0 a0_1).bind fun bt147 => ((laws_toPoint.f a1_0 a1_1).bind fun bt149 => ((impl_OrderOf.f k bt147.1 bt147.2 bt149.1 bt149.2).bind fun bt151 => (if bt151.1 = bt145.1 then (if (bt151.2 != bt145.2) = true then (none) else (some true)) else (none)))))) = some r := H
  have A4 := Aside0.mk A40
  clear A40
  replace H := Option.bind_eq_some_iff.mp H
  obtain ⟨⟨t145, t146⟩, A50, H⟩ := H
  replace H : ((laws_toCurve.f a0_0 a0_1).bind fun bt147 => ((laws_toPoint.f a1_0 a1_1).bind fun bt149 => ((impl_OrderOf.f k bt147.1 bt147.2 bt149.1 bt149.2).bind fun bt151 => (if bt151.1 = t145 then (if (bt151.2 != t146) = true then (none) else (some true)) else (none))))) = some r := H
  have A5 := Aside0.mk A50
  clear A50
  replace H := Option.bind_eq_some_iff.mp H
  obtain ⟨⟨t147, t148⟩, A60, H⟩ := H
  replace H : ((laws_toPoint.f a1_0 a1_1).bind fun bt149 => ((impl_OrderOf.f k t147 t148 bt149.1 bt149.2).bind fun bt151 => (if bt151.1 = t145 then (if (bt151.2 != t146) = true then (none) else (some true)) else (none)))) = some r := H
  have A6 := Aside0.mk A60
  clear A60
  replace H := Option.bind_eq_some_iff.mp H
  obtain ⟨⟨t149, t150⟩, A70, H⟩ := H
  replace H : ((impl_OrderOf.f k t147 t148 t149 t150).bind fun bt151 => (if bt151.1 = t145 then (if (bt151.2 != t146) = true then (none) else (some true)) else (none))) = some r := H
  have A7 := Aside0.mk A70
  clear A70
  replace H := Option.bind_eq_some_iff.mp H
  obtain ⟨⟨t151, t152⟩, A80, H⟩ := H
  replace H : (if t151 = t145 then (if (t152 != t146) = true then (none) else (some true)) else (none)) = some r := H
  have A8 := Aside0.mk A80
  clear A80
  by_cases c9 : t151 = t145
  · rw [if_pos c9] at H
    have c9b0 : (t151 == t145) = true := beq_iff_eq.mpr c9
    have c9b1 : (t151 != t145) = false := bne_eq_false_iff_eq.mpr c9
    clear c9
    by_cases c10 : (t152 != t146) = true
    · rw [if_pos c10] at H
      exact absurd H (by simp)
    · rw [if_neg c10] at H
      have c10b0 : (t152 != t146) = false := by simpa using c10
      (try (have c10b1 : decide (t152 = t146) = true := by simpa using c10))
      (try (have c10b2 : (t152 == t146) = true := by simpa using c10))
      clear c10
      obtain rfl := Option.some.inj H
      go_enter Try.func12, Try.ntmps12
      try go_wp2_with (first | ((with_reducible refine gate_dst (N := 2) rfl ?_); refine box_event ?hg (N := 2) ?hd (cs := #[.int .i64 a0_0, .int .i64 a0_1]) (t := 23) ?hr ?_; (case hd => rfl); (case hg => rfl); (case hr => first | (go_simp; done) | (go_simp; rfl)); intro gb139 hg w11 hbox hb; have n0_ := Aside0.mk (below_step (by repeat (first | (with_reducible first | exact HB.out | apply below_alloc | apply pw_below_drewN | apply below_drew1) | exact HB.out)) hb); have n1_ := Aside0.mk (hbox); have n2_ := Aside0.mk ((by rw [hg]; exact (below_size (by repeat (first | (with_reducible first | exact HB.out | apply below_alloc | apply pw_below_drewN | apply below_drew1) | exact HB.out))) : w.heap.size ≤ gb139)); have n3_ := Aside0.mk ((by rw [hg]; exact (below_size (by repeat (first | (with_reducible first | exact HB.out | apply below_alloc | apply pw_below_drewN | apply below_drew1) | exact HB.out))) : w.heap.size ≤ gb139)); clear HB; have HB := n0_; have BK139 := n1_; have GW139 := n2_; have GE139 := n3_; clear n0_ n1_ n2_ n3_; clear hb hbox hg) | ((with_reducible refine gate_dst (N := 3) rfl ?_); refine box_event ?hg (N := 3) ?hd (cs := #[.int .i64 a1_0, .int .i64 a1_1]) (t := 33) ?hr ?_; (case hd => rfl); (case hg => rfl); (case hr => first | (go_simp; done) | (go_simp; rfl)); intro gb140 hg w12 hbox hb; have n0_ := Aside0.mk (blk_below (g := gb139) (o := .cells #[.int .i64 a0_0, .int .i64 a0_1] 23 (0, 0)) (by (with_reducible repeat (first | refine blk_drewN ?_ _ | refine blk_drew ?_ | refine blk_alloc ?_ _)); exact BK139.out) hb); have n1_ := Aside0.mk (below_step (by repeat (first | (with_reducible first | exact HB.out | apply below_alloc | apply pw_below_drewN | apply below_drew1 | refine below_set ?_ GE139.out) | exact HB.out)) hb); have n2_ := Aside0.mk (hbox); have n3_ := Aside0.mk ((by rw [hg]; exact (below_size (by repeat (first | (with_reducible first | exact HB.out | apply below_alloc | apply pw_below_drewN | apply below_drew1 | refine below_set ?_ GE139.out) | exact HB.out))) : w.heap.size ≤ gb140)); have n4_ := Aside0.mk ((by rw [hg]; exact (below_size (by repeat (first | (with_reducible first | exact HB.out | apply below_alloc | apply pw_below_drewN | apply below_drew1 | refine below_set ?_ GE139.out) | exact HB.out))) : w.heap.size ≤ gb140)); have n5_ := Aside0.mk ((by rw [hg]; exact Nat.ne_of_lt (blk_lt (g := gb139) (o := .cells #[.int .i64 a0_0, .int .i64 a0_1] 23 (0, 0)) (by (with_reducible repeat (first | refine blk_drewN ?_ _ | refine blk_drew ?_ | refine blk_alloc ?_ _)); exact BK139.out)) : gb139 ≠ gb140)); have n6_ := Aside0.mk ((by rw [hg]; exact Nat.ne_of_gt (blk_lt (g := gb139) (o := .cells #[.int .i64 a0_0, .int .i64 a0_1] 23 (0, 0)) (by (with_reducible repeat (first | refine blk_drewN ?_ _ | refine blk_drew ?_ | refine blk_alloc ?_ _)); exact BK139.out)) : gb140 ≠ gb139)); clear BK139; clear HB; have BK139 := n0_; have HB := n1_; have BK140 := n2_; have GW140 := n3_; have GE140 := n4_; have NB139_140 := n5_; have NB140_139 := n6_; clear n0_ n1_ n2_ n3_ n4_ n5_ n6_; clear hb hbox hg))
      have n0_ := Aside0.mk (blk_drew BK139.out)
      have n1_ := Aside0.mk (blk_drew BK140.out)
      have n2_ := Aside0.mk (below_drew1 HB.out)
      clear BK139
      clear BK140
      clear HB
      have BK139 := n0_
      have BK140 := n1_
      have HB := n2_
      clear n0_ n1_ n2_
      refine start_ (n := 10) (S := fun w' => w'.cell? ⟨gb139, 0, none⟩ = some (.int .i64 a0_0) ∧ w'.cell? ⟨gb139, 1, none⟩ = some (.int .i64 a0_1) ∧ w'.cell? ⟨gb140, 0, none⟩ = some (.int .i64 a1_0) ∧ w'.cell? ⟨gb140, 1, none⟩ = some (.int .i64 a1_1)) (ds := []) #[false, false, false, false, false, false, false, false, false, false] (by kernel_rfl) rfl rfl ⟨(blk_cell BK139.out 0).trans rfl, (blk_cell BK139.out 1).trans rfl, (blk_cell BK140.out 0).trans rfl, (blk_cell BK140.out 1).trans rfl⟩ (fun hHeld => ?_); refine with_tabW laws_FnExactOrderOf.tab1 laws_FnExactOrderOf.bits1 (fun HT_ HW_ => ?_)
      generalize w12.drew = w13 at BK139 BK140 HB hHeld ⊢
      refine take_ (i := 0) (N := some 10) (v := ?_) (a' := ?_) #[true, false, false, false, false, false, false, false, false, false] rfl rfl (take_ofW HT_.out HW_.out (by kernel_rfl)) (fun _ _ _ h => h) (Or.inl ⟨by rfl, ?_⟩) hHeld ?_ ?_
      rotate_left
      · rintro w' ⟨s0, s1, s2, s3⟩
        go_simp
        with_reducible rfl
      rotate_left
      · simp only [Act.put, List.setIfInBounds_toArray, List.set_cons_zero, List.set_cons_succ, i64_w, i32_w]
        rfl
      refine take_ (i := 2) (N := some 12) (v := ?_) (a' := ?_) #[true, false, true, false, false, false, false, false, false, false] rfl rfl (take_ofW HT_.out HW_.out (by kernel_rfl)) (fun _ _ _ h => h) (Or.inl ⟨by rfl, ?_⟩) hHeld ?_ ?_
      rotate_left
      · rintro w' ⟨s0, s1, s2, s3⟩
        go_simp
        with_reducible rfl
      rotate_left
      · simp only [Act.put, List.setIfInBounds_toArray, List.set_cons_zero, List.set_cons_succ, i64_w, i32_w]
        rfl
      refine one_ (i := 1) (N := some 11) #[true, true, true, false, false, false, false, false, false, false] rfl rfl (one_of HT_.out (by kernel_rfl)) (by decide) (fun K hK => ?_)
      refine goes_ Try.func14 (by kernel_rfl) rfl #[.agg #[.int .i64 a0_0, .int .i64 a0_1]] (by rfl) rfl rfl (by (try simp only [List.map_toArray, List.map_cons, List.map_nil]); first | done | rfl | (simp only [List.length_drop, List.length_take]; rfl)) ?_
      with_reducible refine (laws_toCurve.calls a0_0 a0_1 t141 t142 _ A3.out).mono ?_
      rintro e w14 ⟨rfl, hb⟩
      refine ⟨_, rfl, ?_⟩
      have n0_ := Aside0.mk (blk_below (g := gb139) (o := .cells #[.int .i64 a0_0, .int .i64 a0_1] 23 (0, 0)) (by (with_reducible repeat (first | refine blk_drewN ?_ _ | refine blk_drew ?_ | refine blk_alloc ?_ _)); exact BK139.out) hb)
      have n1_ := Aside0.mk (blk_below (g := gb140) (o := .cells #[.int .i64 a1_0, .int .i64 a1_1] 33 (0, 0)) (by (with_reducible repeat (first | refine blk_drewN ?_ _ | refine blk_drew ?_ | refine blk_alloc ?_ _)); exact BK140.out) hb)
      have n2_ := Aside0.mk (below_step (by repeat (first | (with_reducible first | exact HB.out | apply below_alloc | apply pw_below_drewN | apply below_drew1 | refine below_set ?_ GE139.out | refine below_set ?_ GE140.out) | exact HB.out)) hb)
      clear BK139
      clear BK140
      clear HB
      have BK139 := n0_
      have BK140 := n1_
      have HB := n2_
      clear n0_ n1_ n2_
      (try clear hb)
      (try clear hb2)
      (try clear hk)
      (try clear hi)
      refine hK.out _ _ ⟨(blk_cell BK139.out 0).trans rfl, (blk_cell BK139.out 1).trans rfl, (blk_cell BK140.out 0).trans rfl, (blk_cell BK140.out 1).trans rfl⟩ (fun hHeld => ?_)
      clear hK K
      refine norm_ (a' := ?_) ?_ ?_
      rotate_left
      · show Act.put _ (some 11) _ = _
        simp only [Act.put, List.setIfInBounds_toArray, List.set_cons_zero, List.set_cons_succ, i64_w, i32_w]
        rfl
      refine one_ (i := 3) (N := some 13) #[true, true, true, true, false, false, false, false, false, false] rfl rfl (one_of HT_.out (by kernel_rfl)) (by decide) (fun K hK => ?_)
      refine goes_ Try.func20 (by kernel_rfl) rfl #[.agg #[.int .i64 a1_0, .int .i64 a1_1]] (by rfl) rfl rfl (by (try simp only [List.map_toArray, List.map_cons, List.map_nil]); first | done | rfl | (simp only [List.length_drop, List.length_take]; rfl)) ?_
      with_reducible refine (laws_toPoint.calls a1_0 a1_1 t143 t144 _ A4.out).mono ?_
      rintro e w15 ⟨rfl, hb⟩
      refine ⟨_, rfl, ?_⟩
      have n0_ := Aside0.mk (blk_below (g := gb139) (o := .cells #[.int .i64 a0_0, .int .i64 a0_1] 23 (0, 0)) (by (with_reducible repeat (first | refine blk_drewN ?_ _ | refine blk_drew ?_ | refine blk_alloc ?_ _)); exact BK139.out) hb)
      have n1_ := Aside0.mk (blk_below (g := gb140) (o := .cells #[.int .i64 a1_0, .int .i64 a1_1] 33 (0, 0)) (by (with_reducible repeat (first | refine blk_drewN ?_ _ | refine blk_drew ?_ | refine blk_alloc ?_ _)); exact BK140.out) hb)
      have n2_ := Aside0.mk (below_step (by repeat (first | (with_reducible first | exact HB.out | apply below_alloc | apply pw_below_drewN | apply below_drew1 | refine below_set ?_ GE139.out | refine below_set ?_ GE140.out) | exact HB.out)) hb)
      clear BK139
      clear BK140
      clear HB
      have BK139 := n0_
      have BK140 := n1_
      have HB := n2_
      clear n0_ n1_ n2_
      (try clear hb)
      (try clear hb2)
      (try clear hk)
      (try clear hi)
      refine hK.out _ _ ⟨(blk_cell BK139.out 0).trans rfl, (blk_cell BK139.out 1).trans rfl, (blk_cell BK140.out 0).trans rfl, (blk_cell BK140.out 1).trans rfl⟩ (fun hHeld => ?_)
      clear hK K
      refine norm_ (a' := ?_) ?_ ?_
      rotate_left
      · show Act.put _ (some 13) _ = _
        simp only [Act.put, List.setIfInBounds_toArray, List.set_cons_zero, List.set_cons_succ, i64_w, i32_w]
        rfl
      refine one_ (i := 4) (N := some 14) #[true, true, true, true, true, false, false, false, false, false] rfl rfl (one_of HT_.out (by kernel_rfl)) (by decide) (fun K hK => ?_)
      refine goes_ Try.func34 (by kernel_rfl) rfl #[.agg #[.int .i64 t141, .int .i64 t142], .agg #[.int .i64 t143, .int .i64 t144]] (by rfl) rfl rfl (by (try simp only [List.map_toArray, List.map_cons, List.map_nil]); first | done | rfl | (simp only [List.length_drop, List.length_take]; rfl)) ?_
      with_reducible refine (spec_OrderOf.calls k t141 t142 t143 t144 t145 t146 _ A5.out).mono ?_
      rintro e w16 ⟨rfl, hb⟩
      refine ⟨_, rfl, ?_⟩
      have n0_ := Aside0.mk (blk_below (g := gb139) (o := .cells #[.int .i64 a0_0, .int .i64 a0_1] 23 (0, 0)) (by (with_reducible repeat (first | refine blk_drewN ?_ _ | refine blk_drew ?_ | refine blk_alloc ?_ _)); exact BK139.out) hb)
      have n1_ := Aside0.mk (blk_below (g := gb140) (o := .cells #[.int .i64 a1_0, .int .i64 a1_1] 33 (0, 0)) (by (with_reducible repeat (first | refine blk_drewN ?_ _ | refine blk_drew ?_ | refine blk_alloc ?_ _)); exact BK140.out) hb)
      have n2_ := Aside0.mk (below_step (by repeat (first | (with_reducible first | exact HB.out | apply below_alloc | apply pw_below_drewN | apply below_drew1 | refine below_set ?_ GE139.out | refine below_set ?_ GE140.out) | exact HB.out)) hb)
      clear BK139
      clear BK140
      clear HB
      have BK139 := n0_
      have BK140 := n1_
      have HB := n2_
      clear n0_ n1_ n2_
      (try clear hb)
      (try clear hb2)
      (try clear hk)
      (try clear hi)
      refine hK.out _ _ ⟨(blk_cell BK139.out 0).trans rfl, (blk_cell BK139.out 1).trans rfl, (blk_cell BK140.out 0).trans rfl, (blk_cell BK140.out 1).trans rfl⟩ (fun hHeld => ?_)
      clear hK K
      refine norm_ (a' := ?_) ?_ ?_
      rotate_left
      · show Act.put _ (some 14) _ = _
        simp only [Act.put, List.setIfInBounds_toArray, List.set_cons_zero, List.set_cons_succ, i64_w, i32_w]
        rfl
      refine pure_ (i := 5) (N := some 9) (v := ?_) (a' := ?_) #[true, true, true, true, true, true, false, false, false, false] rfl rfl (any_of HT_.out (by kernel_rfl)) (fun _ _ _ h => h) (Or.inl ⟨by rfl, ?_⟩) ?_ ?_
      rotate_left
      · intro w'
        go_simp
        with_reducible rfl
      rotate_left
      · simp only [Act.put, List.setIfInBounds_toArray, List.set_cons_zero, List.set_cons_succ, i64_w, i32_w]
        rfl
      refine pure_ (i := 6) (N := some 15) (v := ?_) (a' := ?_) #[true, true, true, true, true, true, true, false, false, false] rfl rfl (any_of HT_.out (by kernel_rfl)) (fun _ _ _ h => h) (Or.inl ⟨by rfl, ?_⟩) ?_ ?_
      rotate_left
      · intro w'
        go_simp
        with_reducible rfl
      rotate_left
      · simp only [Act.put, List.setIfInBounds_toArray, List.set_cons_zero, List.set_cons_succ, i64_w, i32_w]
        rfl
      refine pure_ (i := 7) (N := some 16) (v := ?_) (a' := ?_) #[true, true, true, true, true, true, true, true, false, false] rfl rfl (any_of HT_.out (by kernel_rfl)) (fun _ _ _ h => h) (Or.inl ⟨by rfl, ?_⟩) ?_ ?_
      rotate_left
      · intro w'
        go_simp
        with_reducible rfl
      rotate_left
      · simp only [Act.put, List.setIfInBounds_toArray, List.set_cons_zero, List.set_cons_succ, i64_w, i32_w]
        rfl
      refine pure_ (i := 8) (N := some 5) (v := ?_) (a' := ?_) #[true, true, true, true, true, true, true, true, true, false] rfl rfl (any_of HT_.out (by kernel_rfl)) (fun _ _ _ h => h) (Or.inl ⟨by rfl, ?_⟩) ?_ ?_
      rotate_left
      · intro w'
        go_simp
        with_reducible rfl
      rotate_left
      · simp only [Act.put, List.setIfInBounds_toArray, List.set_cons_zero, List.set_cons_succ, i64_w, i32_w]
        rfl
      refine pure_ (i := 9) (N := some 6) (v := ?_) (a' := ?_) #[true, true, true, true, true, true, true, true, true, true] rfl rfl (any_of HT_.out (by kernel_rfl)) (fun _ _ _ h => h) (Or.inl ⟨by rfl, ?_⟩) ?_ ?_
      rotate_left
      · intro w'
        go_simp
        with_reducible rfl
      rotate_left
      · simp only [Act.put, List.setIfInBounds_toArray, List.set_cons_zero, List.set_cons_succ, i64_w, i32_w]
        rfl
      refine done_ (done_of HT_.out (by kernel_rfl)) ?_
      try go_wp2
      have n0_ := Aside0.mk (blk_drew BK139.out)
      have n1_ := Aside0.mk (blk_drew BK140.out)
      have n2_ := Aside0.mk (below_drew1 HB.out)
      clear BK139
      clear BK140
      clear HB
      have BK139 := n0_
      have BK140 := n1_
      have HB := n2_
      clear n0_ n1_ n2_
      refine start_ (n := 10) (S := fun w' => w'.cell? ⟨gb139, 0, none⟩ = some (.int .i64 a0_0) ∧ w'.cell? ⟨gb139, 1, none⟩ = some (.int .i64 a0_1) ∧ w'.cell? ⟨gb140, 0, none⟩ = some (.int .i64 a1_0) ∧ w'.cell? ⟨gb140, 1, none⟩ = some (.int .i64 a1_1)) (ds := []) #[false, false, false, false, false, false, false, false, false, false] (by kernel_rfl) rfl rfl ⟨(blk_cell BK139.out 0).trans rfl, (blk_cell BK139.out 1).trans rfl, (blk_cell BK140.out 0).trans rfl, (blk_cell BK140.out 1).trans rfl⟩ (fun hHeld => ?_); refine with_tabW laws_FnExactOrderOf.tab2 laws_FnExactOrderOf.bits2 (fun HT_ HW_ => ?_)
      generalize w16.drew = w17 at BK139 BK140 HB hHeld ⊢
      refine take_ (i := 0) (N := some 18) (v := ?_) (a' := ?_) #[true, false, false, false, false, false, false, false, false, false] rfl rfl (take_ofW HT_.out HW_.out (by kernel_rfl)) (fun _ _ _ h => h) (Or.inl ⟨by rfl, ?_⟩) hHeld ?_ ?_
      rotate_left
      · rintro w' ⟨s0, s1, s2, s3⟩
        go_simp
        with_reducible rfl
      rotate_left
      · simp only [Act.put, List.setIfInBounds_toArray, List.set_cons_zero, List.set_cons_succ, i64_w, i32_w]
        rfl
      refine take_ (i := 2) (N := some 20) (v := ?_) (a' := ?_) #[true, false, true, false, false, false, false, false, false, false] rfl rfl (take_ofW HT_.out HW_.out (by kernel_rfl)) (fun _ _ _ h => h) (Or.inl ⟨by rfl, ?_⟩) hHeld ?_ ?_
      rotate_left
      · rintro w' ⟨s0, s1, s2, s3⟩
        go_simp
        with_reducible rfl
      rotate_left
      · simp only [Act.put, List.setIfInBounds_toArray, List.set_cons_zero, List.set_cons_succ, i64_w, i32_w]
        rfl
      refine one_ (i := 1) (N := some 19) #[true, true, true, false, false, false, false, false, false, false] rfl rfl (one_of HT_.out (by kernel_rfl)) (by decide) (fun K hK => ?_)
      refine goes_ Try.func14 (by kernel_rfl) rfl #[.agg #[.int .i64 a0_0, .int .i64 a0_1]] (by rfl) rfl rfl (by (try simp only [List.map_toArray, List.map_cons, List.map_nil]); first | done | rfl | (simp only [List.length_drop, List.length_take]; rfl)) ?_
      with_reducible refine (laws_toCurve.calls a0_0 a0_1 t147 t148 _ A6.out).mono ?_
      rintro e w18 ⟨rfl, hb⟩
      refine ⟨_, rfl, ?_⟩
      have n0_ := Aside0.mk (blk_below (g := gb139) (o := .cells #[.int .i64 a0_0, .int .i64 a0_1] 23 (0, 0)) (by (with_reducible repeat (first | refine blk_drewN ?_ _ | refine blk_drew ?_ | refine blk_alloc ?_ _)); exact BK139.out) hb)
      have n1_ := Aside0.mk (blk_below (g := gb140) (o := .cells #[.int .i64 a1_0, .int .i64 a1_1] 33 (0, 0)) (by (with_reducible repeat (first | refine blk_drewN ?_ _ | refine blk_drew ?_ | refine blk_alloc ?_ _)); exact BK140.out) hb)
      have n2_ := Aside0.mk (below_step (by repeat (first | (with_reducible first | exact HB.out | apply below_alloc | apply pw_below_drewN | apply below_drew1 | refine below_set ?_ GE139.out | refine below_set ?_ GE140.out) | exact HB.out)) hb)
      clear BK139
      clear BK140
      clear HB
      have BK139 := n0_
      have BK140 := n1_
      have HB := n2_
      clear n0_ n1_ n2_
      (try clear hb)
      (try clear hb2)
      (try clear hk)
      (try clear hi)
      refine hK.out _ _ ⟨(blk_cell BK139.out 0).trans rfl, (blk_cell BK139.out 1).trans rfl, (blk_cell BK140.out 0).trans rfl, (blk_cell BK140.out 1).trans rfl⟩ (fun hHeld => ?_)
      clear hK K
      refine norm_ (a' := ?_) ?_ ?_
      rotate_left
      · show Act.put _ (some 19) _ = _
        simp only [Act.put, List.setIfInBounds_toArray, List.set_cons_zero, List.set_cons_succ, i64_w, i32_w]
        rfl
      refine one_ (i := 3) (N := some 21) #[true, true, true, true, false, false, false, false, false, false] rfl rfl (one_of HT_.out (by kernel_rfl)) (by decide) (fun K hK => ?_)
      refine goes_ Try.func20 (by kernel_rfl) rfl #[.agg #[.int .i64 a1_0, .int .i64 a1_1]] (by rfl) rfl rfl (by (try simp only [List.map_toArray, List.map_cons, List.map_nil]); first | done | rfl | (simp only [List.length_drop, List.length_take]; rfl)) ?_
      with_reducible refine (laws_toPoint.calls a1_0 a1_1 t149 t150 _ A7.out).mono ?_
      rintro e w19 ⟨rfl, hb⟩
      refine ⟨_, rfl, ?_⟩
      have n0_ := Aside0.mk (blk_below (g := gb139) (o := .cells #[.int .i64 a0_0, .int .i64 a0_1] 23 (0, 0)) (by (with_reducible repeat (first | refine blk_drewN ?_ _ | refine blk_drew ?_ | refine blk_alloc ?_ _)); exact BK139.out) hb)
      have n1_ := Aside0.mk (blk_below (g := gb140) (o := .cells #[.int .i64 a1_0, .int .i64 a1_1] 33 (0, 0)) (by (with_reducible repeat (first | refine blk_drewN ?_ _ | refine blk_drew ?_ | refine blk_alloc ?_ _)); exact BK140.out) hb)
      have n2_ := Aside0.mk (below_step (by repeat (first | (with_reducible first | exact HB.out | apply below_alloc | apply pw_below_drewN | apply below_drew1 | refine below_set ?_ GE139.out | refine below_set ?_ GE140.out) | exact HB.out)) hb)
      clear BK139
      clear BK140
      clear HB
      have BK139 := n0_
      have BK140 := n1_
      have HB := n2_
      clear n0_ n1_ n2_
      (try clear hb)
      (try clear hb2)
      (try clear hk)
      (try clear hi)
      refine hK.out _ _ ⟨(blk_cell BK139.out 0).trans rfl, (blk_cell BK139.out 1).trans rfl, (blk_cell BK140.out 0).trans rfl, (blk_cell BK140.out 1).trans rfl⟩ (fun hHeld => ?_)
      clear hK K
      refine norm_ (a' := ?_) ?_ ?_
      rotate_left
      · show Act.put _ (some 21) _ = _
        simp only [Act.put, List.setIfInBounds_toArray, List.set_cons_zero, List.set_cons_succ, i64_w, i32_w]
        rfl
      refine one_ (i := 4) (N := some 22) #[true, true, true, true, true, false, false, false, false, false] rfl rfl (one_of HT_.out (by kernel_rfl)) (by decide) (fun K hK => ?_)
      refine goes_ Try.func35 (by kernel_rfl) rfl #[.agg #[.int .i64 t147, .int .i64 t148], .agg #[.int .i64 t149, .int .i64 t150]] (by rfl) rfl rfl (by (try simp only [List.map_toArray, List.map_cons, List.map_nil]); first | done | rfl | (simp only [List.length_drop, List.length_take]; rfl)) ?_
      with_reducible refine (impl_OrderOf.calls k t147 t148 t149 t150 t151 t152 _ A8.out).mono ?_
      rintro e w20 ⟨rfl, hb⟩
      refine ⟨_, rfl, ?_⟩
      have n0_ := Aside0.mk (blk_below (g := gb139) (o := .cells #[.int .i64 a0_0, .int .i64 a0_1] 23 (0, 0)) (by (with_reducible repeat (first | refine blk_drewN ?_ _ | refine blk_drew ?_ | refine blk_alloc ?_ _)); exact BK139.out) hb)
      have n1_ := Aside0.mk (blk_below (g := gb140) (o := .cells #[.int .i64 a1_0, .int .i64 a1_1] 33 (0, 0)) (by (with_reducible repeat (first | refine blk_drewN ?_ _ | refine blk_drew ?_ | refine blk_alloc ?_ _)); exact BK140.out) hb)
      have n2_ := Aside0.mk (below_step (by repeat (first | (with_reducible first | exact HB.out | apply below_alloc | apply pw_below_drewN | apply below_drew1 | refine below_set ?_ GE139.out | refine below_set ?_ GE140.out) | exact HB.out)) hb)
      clear BK139
      clear BK140
      clear HB
      have BK139 := n0_
      have BK140 := n1_
      have HB := n2_
      clear n0_ n1_ n2_
      (try clear hb)
      (try clear hb2)
      (try clear hk)
      (try clear hi)
      refine hK.out _ _ ⟨(blk_cell BK139.out 0).trans rfl, (blk_cell BK139.out 1).trans rfl, (blk_cell BK140.out 0).trans rfl, (blk_cell BK140.out 1).trans rfl⟩ (fun hHeld => ?_)
      clear hK K
      refine norm_ (a' := ?_) ?_ ?_
      rotate_left
      · show Act.put _ (some 22) _ = _
        simp only [Act.put, List.setIfInBounds_toArray, List.set_cons_zero, List.set_cons_succ, i64_w, i32_w]
        rfl
      refine pure_ (i := 5) (N := some 17) (v := ?_) (a' := ?_) #[true, true, true, true, true, true, false, false, false, false] rfl rfl (any_of HT_.out (by kernel_rfl)) (fun _ _ _ h => h) (Or.inl ⟨by rfl, ?_⟩) ?_ ?_
      rotate_left
      · intro w'
        go_simp
        with_reducible rfl
      rotate_left
      · simp only [Act.put, List.setIfInBounds_toArray, List.set_cons_zero, List.set_cons_succ, i64_w, i32_w]
        rfl
      refine pure_ (i := 6) (N := some 23) (v := ?_) (a' := ?_) #[true, true, true, true, true, true, true, false, false, false] rfl rfl (any_of HT_.out (by kernel_rfl)) (fun _ _ _ h => h) (Or.inl ⟨by rfl, ?_⟩) ?_ ?_
      rotate_left
      · intro w'
        go_simp
        with_reducible rfl
      rotate_left
      · simp only [Act.put, List.setIfInBounds_toArray, List.set_cons_zero, List.set_cons_succ, i64_w, i32_w]
        rfl
      refine pure_ (i := 7) (N := some 24) (v := ?_) (a' := ?_) #[true, true, true, true, true, true, true, true, false, false] rfl rfl (any_of HT_.out (by kernel_rfl)) (fun _ _ _ h => h) (Or.inl ⟨by rfl, ?_⟩) ?_ ?_
      rotate_left
      · intro w'
        go_simp
        with_reducible rfl
      rotate_left
      · simp only [Act.put, List.setIfInBounds_toArray, List.set_cons_zero, List.set_cons_succ, i64_w, i32_w]
        rfl
      refine pure_ (i := 8) (N := some 7) (v := ?_) (a' := ?_) #[true, true, true, true, true, true, true, true, true, false] rfl rfl (any_of HT_.out (by kernel_rfl)) (fun _ _ _ h => h) (Or.inl ⟨by rfl, ?_⟩) ?_ ?_
      rotate_left
      · intro w'
        go_simp
        with_reducible rfl
      rotate_left
      · simp only [Act.put, List.setIfInBounds_toArray, List.set_cons_zero, List.set_cons_succ, i64_w, i32_w]
        rfl
      refine pure_ (i := 9) (N := some 8) (v := ?_) (a' := ?_) #[true, true, true, true, true, true, true, true, true, true] rfl rfl (any_of HT_.out (by kernel_rfl)) (fun _ _ _ h => h) (Or.inl ⟨by rfl, ?_⟩) ?_ ?_
      rotate_left
      · intro w'
        go_simp
        with_reducible rfl
      rotate_left
      · simp only [Act.put, List.setIfInBounds_toArray, List.set_cons_zero, List.set_cons_succ, i64_w, i32_w]
        rfl
      refine done_ (done_of HT_.out (by kernel_rfl)) ?_
      try go_wp2
      go_ret
      exact ⟨by first | rfl | (simp [errW_none, errW_some] <;> rfl) | (simp [*, errW_none, errW_some] <;> rfl), by repeat (first | (with_reducible first | exact HB.out | apply below_alloc | apply pw_below_drewN | apply below_drew1 | refine below_set ?_ GE139.out | refine below_set ?_ GE140.out) | exact HB.out)⟩
  · rw [if_neg c9] at H
    exact absurd H (by simp)

end Go.Proofs.Ytghikmnjccgchaa.SFnExactOrderOf
