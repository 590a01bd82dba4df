-- Written by sprint.py, a program of this session's, over the kit's print. Not trusted: Lean checks it.
import Derived.Test.YtghikmnjccgchaaSFnExactOrderOfx0
import Derived.Test.YtghikmnjccgchaaSFnExactOrderOfx1
import Derived.Test.YtghikmnjccgchaaSFnExactOrderOfx2
namespace Go.Proofs.Ytghikmnjccgchaa.SFnExactOrderOf
open Go.RowKit Go.Proofs.YtghikmnjccgchaaW.PrintWords Go.Proofs.YtghikmnjccgchaaW.PrintLast Go.Proofs.YtghikmnjccgchaaW.PrintMore
attribute [local go_sem] max2_int min2_int max_two min_two max_three min_three max_four min_four   -- for this text's walks alone
set_option linter.unusedVariables false
set_option linter.unusedSimpArgs false

/-! ### impl_isPrime: function 51 -/
def impl_isPrime.l0 : Nat → Int → Int → Option (Bool)
  | 0, _, _ => none
  | k + 1, x0, x3 => if (wrap64 (x3 * x3)) ≤ x0 then (if x3 = 0 then (none) else (if (Int.tmod x0 x3) = 0 then (some false) else (impl_isPrime.l0 k x0 (wrap64 (x3 + 1))))) else (some (decide (x0 > 1)))
def impl_isPrime.f (k : Nat) (a0 : Int) : Option (Bool) := impl_isPrime.l0 k a0 2
theorem impl_isPrime.mono_l : ∀ k, (∀ y0 y1, LeO (impl_isPrime.l0 k y0 y1) (impl_isPrime.l0 (k + 1) y0 y1))
  | 0 => fun _ _ r h => by simp [impl_isPrime.l0] at h
  | k + 1 => by
    have ih0 := impl_isPrime.mono_l k
    · intro y0 y1
      unfold impl_isPrime.l0
      repeat' first
      | (with_reducible exact ih0 _ _)
      | (with_reducible exact LeO.refl _)
      | (with_reducible exact LeO.none _)
      | (with_reducible refine LeO.ite ?_ ?_)
      | (with_reducible refine LeO.bind ?_ (fun _ => ?_))
      | exact ih0 _ _
      | exact LeO.none _
      | refine LeO.ite ?_ ?_
      | refine LeO.bind ?_ (fun _ => ?_)
theorem impl_isPrime.mono : ∀ a0 k, LeO (impl_isPrime.f k a0) (impl_isPrime.f (k + 1) a0) := by
  intro a0 k
  have ih0 := impl_isPrime.mono_l k
  unfold impl_isPrime.f
  repeat' first
      | (with_reducible exact ih0 _ _)
      | (with_reducible exact LeO.refl _)
      | (with_reducible exact LeO.none _)
      | (with_reducible refine LeO.ite ?_ ?_)
      | (with_reducible refine LeO.bind ?_ (fun _ => ?_))
      | exact ih0 _ _
      | exact LeO.none _
      | refine LeO.ite ?_ ?_
      | refine LeO.bind ?_ (fun _ => ?_)
set_option maxHeartbeats 8000000 in
set_option maxRecDepth 100000 in
theorem impl_isPrime.calls (k : Nat) (a0 : Int) (r : Bool) (w : World) (h : impl_isPrime.f k a0 = some r) :
    Calls Try.prog 51 #[.int .i64 a0] w fun e w' => e = .returned (.bool r) ∧ Drawn0 w w' := by
  have H : (impl_isPrime.l0 k a0 2) = some r := h
  clear h
  have H' := Aside0.mk H
  clear H
  go_enter Try.func51, Try.ntmps51
  go_wp2
  go_loopg [3] k (fun kq v3 w' => ∃ (x3_1 : Int), v3 = .int .i64 x3_1 ∧ Aside0 (impl_isPrime.l0 kq a0 x3_1 = some r) ∧ Aside0 (kq ≤ k) ∧ Drawn0 w w')
  case atStart => exact ⟨(2), (by first | rfl | (simp; done) | (simp [*]; done)), H', ⟨Nat.le_refl _⟩, by repeat (first | exact Drawn0.refl _ | apply Drawn0.step)⟩
  case round =>
    clear H'
    obtain ⟨x3_1, rfl, HA, HK1, ⟨m1, rfl⟩⟩ := hrel
    cases gk with
    | zero => exact absurd HA.out (by simp [impl_isPrime.l0])
    | succ k1 =>
      have H := HA.out
      clear HA
      simp only [impl_isPrime.l0] at H
      by_cases c2 : (wrap64 (x3_1 * x3_1)) ≤ a0
      · rw [if_pos c2] at H
        have c2b0 : decide ((wrap64 (x3_1 * x3_1)) ≤ a0) = true := decide_eq_true c2
        clear c2
        by_cases c3 : x3_1 = 0
        · rw [if_pos c3] at H
          exact absurd H (by simp)
        · rw [if_neg c3] at H
          have c3b0 : (x3_1 == 0) = false := beq_eq_false_iff_ne.mpr c3
          have c3b1 : (x3_1 != 0) = true := bne_iff_ne.mpr c3
          by_cases c4 : (Int.tmod a0 x3_1) = 0
          · rw [if_pos c4] at H
            have c4b0 : ((Int.tmod a0 x3_1) == 0) = true := beq_iff_eq.mpr c4
            have c4b1 : ((Int.tmod a0 x3_1) != 0) = false := bne_eq_false_iff_eq.mpr c4
            clear c4
            obtain rfl := Option.some.inj H
            go_wp2
            go_ret
            exact ⟨by first | rfl | (simp; done) | (simp [*]; done), by repeat (first | exact Drawn0.refl _ | apply Drawn0.step)⟩
          · rw [if_neg c4] at H
            have c4b0 : ((Int.tmod a0 x3_1) == 0) = false := beq_eq_false_iff_ne.mpr c4
            have c4b1 : ((Int.tmod a0 x3_1) != 0) = true := bne_iff_ne.mpr c4
            have H' := Aside0.mk H
            clear H
            go_wp2
            go_roundg k1
            case measure => have := HK1.out; omega
            case rel => exact ⟨(wrap64 (x3_1 + 1)), (by first | rfl | (simp; done) | (simp [*]; done)), H', ⟨by have := HK1.out; omega⟩, by repeat (first | exact Drawn0.refl _ | apply Drawn0.step)⟩
      · rw [if_neg c2] at H
        have c2b0 : decide ((wrap64 (x3_1 * x3_1)) ≤ a0) = false := decide_eq_false c2
        clear c2
        obtain rfl := Option.some.inj H
        go_wp2
        go_ret
        exact ⟨by first | rfl | (simp; done) | (simp [*]; done), by repeat (first | exact Drawn0.refl _ | apply Drawn0.step)⟩

/-! ### impl_squareKind: function 52 -/
def impl_squareKind.f (k : Nat) (a0 : Int) (a1 : Int) : Option (Int) := if a0 = 0 then (some 0) else ((impl_powerMod.f k a0 (wrap64 (Int.tdiv (wrap64 (a1 - 1)) 2)) a1).bind fun t127 => (if t127 = 1 then (some 1) else (some (-1))))
theorem impl_squareKind.mono : ∀ a0 a1 k, LeO (impl_squareKind.f k a0 a1) (impl_squareKind.f (k + 1) a0 a1) := by
  intro a0 a1 k
  unfold impl_squareKind.f
  repeat' first
      | (with_reducible exact impl_powerMod.mono _ _ _ _)
      | (with_reducible exact LeO.refl _)
      | (with_reducible exact LeO.none _)
      | (with_reducible refine LeO.ite ?_ ?_)
      | (with_reducible refine LeO.bind ?_ (fun _ => ?_))
      | exact impl_powerMod.mono _ _ _ _
      | exact LeO.none _
      | refine LeO.ite ?_ ?_
      | refine LeO.bind ?_ (fun _ => ?_)
set_option maxHeartbeats 8000000 in
set_option maxRecDepth 100000 in
theorem impl_squareKind.calls (k : Nat) (a0 : Int) (a1 : Int) (r : Int) (w : World) (h : impl_squareKind.f k a0 a1 = some r) :
    Calls Try.prog 52 #[.int .i64 a0, .int .i64 a1] w fun e w' => e = .returned (.int .i64 r) ∧ Drawn0 w w' := by
  have H : (if a0 = 0 then (some 0) else ((impl_powerMod.f k a0 (wrap64 (Int.tdiv (wrap64 (a1 - 1)) 2)) a1).bind fun t127 => (if t127 = 1 then (some 1) else (some (-1))))) = some r := h
  clear h
  by_cases c3 : a0 = 0
  · rw [if_pos c3] at H
    have c3b0 : (a0 == 0) = true := beq_iff_eq.mpr c3
    have c3b1 : (a0 != 0) = false := bne_eq_false_iff_eq.mpr c3
    clear c3
    obtain rfl := Option.some.inj H
    go_enter Try.func52, Try.ntmps52
    go_wp2
    go_ret
    exact ⟨by first | rfl | (simp; done) | (simp [*]; done), by repeat (first | exact Drawn0.refl _ | apply Drawn0.step)⟩
  · rw [if_neg c3] at H
    have c3b0 : (a0 == 0) = false := beq_eq_false_iff_ne.mpr c3
    have c3b1 : (a0 != 0) = true := bne_iff_ne.mpr c3
    replace H := Option.bind_eq_some_iff.mp H
    obtain ⟨t127, A40, H⟩ := H
    replace H : (if t127 = 1 then (some 1) else (some (-1))) = some r := H
    have A4 := Aside0.mk A40
    clear A40
    by_cases c5 : t127 = 1
    · rw [if_pos c5] at H
      have c5b0 : (t127 == 1) = true := beq_iff_eq.mpr c5
      have c5b1 : (t127 != 1) = false := bne_eq_false_iff_eq.mpr c5
      clear c5
      obtain rfl := Option.some.inj H
      go_enter Try.func52, Try.ntmps52
      go_wp2_with (first | ((with_reducible refine gate_callee (f := 57) rfl ?_); refine goesL_ (some 12) rfl rfl Try.func57 (by kernel_rfl) rfl #[.int .i64 a0, .int .i64 (wrap64 (Int.tdiv (wrap64 (a1 - 1)) 2)), .int .i64 a1] rfl (by (try simp only [List.map_toArray, List.map_cons, List.map_nil]); first | done | rfl | (simp only [List.length_drop, List.length_take]; rfl)) ?_; (with_reducible refine (impl_powerMod.calls k a0 (wrap64 (Int.tdiv (wrap64 (a1 - 1)) 2)) a1 t127 _ A4.out).mono ?_); rintro e w' ⟨rfl, ⟨nd, rfl⟩⟩; refine ⟨_, rfl, ?_⟩))
      go_ret
      exact ⟨by first | rfl | (simp; done) | (simp [*]; done), by repeat (first | exact Drawn0.refl _ | apply Drawn0.step)⟩
    · rw [if_neg c5] at H
      have c5b0 : (t127 == 1) = false := beq_eq_false_iff_ne.mpr c5
      have c5b1 : (t127 != 1) = true := bne_iff_ne.mpr c5
      obtain rfl := Option.some.inj H
      go_enter Try.func52, Try.ntmps52
      go_wp2_with (first | ((with_reducible refine gate_callee (f := 57) rfl ?_); refine goesL_ (some 12) rfl rfl Try.func57 (by kernel_rfl) rfl #[.int .i64 a0, .int .i64 (wrap64 (Int.tdiv (wrap64 (a1 - 1)) 2)), .int .i64 a1] rfl (by (try simp only [List.map_toArray, List.map_cons, List.map_nil]); first | done | rfl | (simp only [List.length_drop, List.length_take]; rfl)) ?_; (with_reducible refine (impl_powerMod.calls k a0 (wrap64 (Int.tdiv (wrap64 (a1 - 1)) 2)) a1 t127 _ A4.out).mono ?_); rintro e w' ⟨rfl, ⟨nd, rfl⟩⟩; refine ⟨_, rfl, ?_⟩))
      go_ret
      exact ⟨by first | rfl | (simp; done) | (simp [*]; done), by repeat (first | exact Drawn0.refl _ | apply Drawn0.step)⟩

/-! ### impl_isCurve: function 39 -/
def impl_isCurve.f (k : Nat) (a0_0 : Int) (a0_1 : Int) : Option (Bool) := (impl_within.f a0_0 5 199).bind fun t129 => (if t129 = true then ((impl_isPrime.f k a0_0).bind fun t130 => (if t130 = true then ((impl_within.f a0_1 2 (wrap64 (a0_0 - 1))).bind fun t131 => (if t131 = true then ((impl_squareKind.f k a0_1 a0_0).bind fun t132 => (some (decide (t132 < 0)))) else (some false))) else (some false))) else (some false))
theorem impl_isCurve.mono : ∀ a0 a1 k, LeO (impl_isCurve.f k a0 a1) (impl_isCurve.f (k + 1) a0 a1) := by
  intro a0 a1 k
  unfold impl_isCurve.f
  repeat' first
      | (with_reducible exact impl_isPrime.mono _ _)
      | (with_reducible exact impl_squareKind.mono _ _ _)
      | (with_reducible exact LeO.refl _)
      | (with_reducible exact LeO.none _)
      | (with_reducible refine LeO.ite ?_ ?_)
      | (with_reducible refine LeO.bind ?_ (fun _ => ?_))
      | exact impl_isPrime.mono _ _
      | exact impl_squareKind.mono _ _ _
      | exact LeO.none _
      | refine LeO.ite ?_ ?_
      | refine LeO.bind ?_ (fun _ => ?_)
set_option maxHeartbeats 8000000 in
set_option maxRecDepth 100000 in
theorem impl_isCurve.calls (k : Nat) (a0_0 : Int) (a0_1 : Int) (r : Bool) (w : World) (h : impl_isCurve.f k a0_0 a0_1 = some r) :
    Calls Try.prog 39 #[.agg #[.int .i64 a0_0, .int .i64 a0_1]] w fun e w' => e = .returned (.bool r) ∧ Below w.heap.size w w' := by
  have hu25 := Try.underlying25
  have HB := Aside0.mk (Below.refl w.heap.size w)
  have H : ((impl_within.f a0_0 5 199).bind fun t129 => (if t129 = true then ((impl_isPrime.f k a0_0).bind fun t130 => (if t130 = true then ((impl_within.f a0_1 2 (wrap64 (a0_0 - 1))).bind fun t131 => (if t131 = true then ((impl_squareKind.f k a0_1 a0_0).bind fun t132 => (some (decide (t132 < 0)))) else (some false))) else (some false))) else (some false))) = some r := h
  clear h
  replace H := Option.bind_eq_some_iff.mp H
  obtain ⟨t129, A20, H⟩ := H
  replace H : (if t129 = true then ((impl_isPrime.f k a0_0).bind fun t130 => (if t130 = true then ((impl_within.f a0_1 2 (wrap64 (a0_0 - 1))).bind fun t131 => (if t131 = true then ((impl_squareKind.f k a0_1 a0_0).bind fun t132 => (some (decide (t132 < 0)))) else (some false))) else (some false))) else (some false)) = some r := H
  have A2 := Aside0.mk A20
  clear A20
  by_cases c3 : t129 = true
  · subst c3
    have H1 : ((impl_isPrime.f k a0_0).bind fun t130 => (if t130 = true then ((impl_within.f a0_1 2 (wrap64 (a0_0 - 1))).bind fun t131 => (if t131 = true then ((impl_squareKind.f k a0_1 a0_0).bind fun t132 => (some (decide (t132 < 0)))) else (some false))) else (some false))) = some r := by rw [if_pos rfl] at H; exact H
    clear H
    have H := H1
    clear H1
    replace H := Option.bind_eq_some_iff.mp H
    obtain ⟨t130, A40, H⟩ := H
    replace H : (if t130 = true then ((impl_within.f a0_1 2 (wrap64 (a0_0 - 1))).bind fun t131 => (if t131 = true then ((impl_squareKind.f k a0_1 a0_0).bind fun t132 => (some (decide (t132 < 0)))) else (some false))) else (some false)) = some r := H
    have A4 := Aside0.mk A40
    clear A40
    by_cases c5 : t130 = true
    · subst c5
      have H1 : ((impl_within.f a0_1 2 (wrap64 (a0_0 - 1))).bind fun t131 => (if t131 = true then ((impl_squareKind.f k a0_1 a0_0).bind fun t132 => (some (decide (t132 < 0)))) else (some false))) = some r := by rw [if_pos rfl] at H; exact H
      clear H
      have H := H1
      clear H1
      replace H := Option.bind_eq_some_iff.mp H
      obtain ⟨t131, A60, H⟩ := H
      replace H : (if t131 = true then ((impl_squareKind.f k a0_1 a0_0).bind fun t132 => (some (decide (t132 < 0)))) else (some false)) = some r := H
      have A6 := Aside0.mk A60
      clear A60
      by_cases c7 : t131 = true
      · subst c7
        have H1 : ((impl_squareKind.f k a0_1 a0_0).bind fun t132 => (some (decide (t132 < 0)))) = some r := by rw [if_pos rfl] at H; exact H
        clear H
        have H := H1
        clear H1
        replace H := Option.bind_eq_some_iff.mp H
        obtain ⟨t132, A80, H⟩ := H
        replace H : (some (decide (t132 < 0))) = some r := H
        have A8 := Aside0.mk A80
        clear A80
        obtain rfl := Option.some.inj H
        go_enter Try.func39, Try.ntmps39
        go_wp2_with (first | ((with_reducible refine gate_dst (N := 1) rfl ?_); refine box_event ?hg (N := 1) ?hd (cs := #[.int .i64 a0_0, .int .i64 a0_1]) (t := 25) ?hr ?_; (case hd => rfl); (case hg => rfl); (case hr => first | (go_simp; done) | (go_simp; rfl)); intro gb128 hg w9 hbox hb; have n0_ := Aside0.mk (below_step (by repeat (first | (with_reducible first | exact HB.out | apply below_alloc | apply pw_below_drewN | apply below_drew1) | exact HB.out)) hb); have n1_ := Aside0.mk (hbox); have n2_ := Aside0.mk ((by rw [hg]; exact (below_size (by repeat (first | (with_reducible first | exact HB.out | apply below_alloc | apply pw_below_drewN | apply below_drew1) | exact HB.out))) : w.heap.size ≤ gb128)); have n3_ := Aside0.mk ((by rw [hg]; exact (below_size (by repeat (first | (with_reducible first | exact HB.out | apply below_alloc | apply pw_below_drewN | apply below_drew1) | exact HB.out))) : w.heap.size ≤ gb128)); clear HB; have HB := n0_; have BK128 := n1_; have GW128 := n2_; have GE128 := n3_; clear n0_ n1_ n2_ n3_; clear hb hbox hg; have hcz10_0 : w9.cell? ⟨gb128, 0, none⟩ = some (.int .i64 a0_0) := (blk_cell BK128.out 0).trans rfl; have hcz10_1 : w9.cell? ⟨gb128, 1, none⟩ = some (.int .i64 a0_1) := (blk_cell BK128.out 1).trans rfl; have hfz10_0 := blk_frozen BK128.out 0; have hfz10_1 := blk_frozen BK128.out 1) | ((with_reducible refine gate_callee (f := 42) rfl ?_); refine goesL_ (some 5) rfl rfl Try.func42 (by kernel_rfl) rfl #[.int .i64 a0_0, .int .i64 5, .int .i64 199] rfl (by (try simp only [List.map_toArray, List.map_cons, List.map_nil]); first | done | rfl | (simp only [List.length_drop, List.length_take]; rfl)) ?_; (with_reducible refine (impl_within.calls a0_0 5 199 true _ A2.out).mono ?_); rintro e w' ⟨rfl, ⟨nd, rfl⟩⟩; refine ⟨_, rfl, ?_⟩) | (go_at_call 51; (with_reducible refine (impl_isPrime.calls k a0_0 true _ A4.out).mono ?_); rintro e w' ⟨rfl, ⟨nd, rfl⟩⟩) | (go_at_call 42; (with_reducible refine (impl_within.calls a0_1 2 (wrap64 (a0_0 - 1)) true _ A6.out).mono ?_); rintro e w' ⟨rfl, ⟨nd, rfl⟩⟩) | (go_at_call 52; (with_reducible refine (impl_squareKind.calls k a0_1 a0_0 t132 _ A8.out).mono ?_); rintro e w' ⟨rfl, ⟨nd, rfl⟩⟩))
        go_ret
        exact ⟨by first | rfl | (simp [errW_none, errW_some] <;> rfl) | (simp [*, errW_none, errW_some] <;> rfl), by repeat (first | (with_reducible first | exact HB.out | apply below_alloc | apply pw_below_drewN | apply below_drew1 | refine below_set ?_ GE128.out) | exact HB.out)⟩
      · replace c7 := Bool.eq_false_iff.mpr c7
        subst c7
        have H1 : (some false) = some r := by rw [if_neg (show ¬ (false = true) by decide)] at H; exact H
        clear H
        have H := H1
        clear H1
        obtain rfl := Option.some.inj H
        go_enter Try.func39, Try.ntmps39
        go_wp2_with (first | ((with_reducible refine gate_dst (N := 1) rfl ?_); refine box_event ?hg (N := 1) ?hd (cs := #[.int .i64 a0_0, .int .i64 a0_1]) (t := 25) ?hr ?_; (case hd => rfl); (case hg => rfl); (case hr => first | (go_simp; done) | (go_simp; rfl)); intro gb128 hg w11 hbox hb; have n0_ := Aside0.mk (below_step (by repeat (first | (with_reducible first | exact HB.out | apply below_alloc | apply pw_below_drewN | apply below_drew1) | exact HB.out)) hb); have n1_ := Aside0.mk (hbox); have n2_ := Aside0.mk ((by rw [hg]; exact (below_size (by repeat (first | (with_reducible first | exact HB.out | apply below_alloc | apply pw_below_drewN | apply below_drew1) | exact HB.out))) : w.heap.size ≤ gb128)); have n3_ := Aside0.mk ((by rw [hg]; exact (below_size (by repeat (first | (with_reducible first | exact HB.out | apply below_alloc | apply pw_below_drewN | apply below_drew1) | exact HB.out))) : w.heap.size ≤ gb128)); clear HB; have HB := n0_; have BK128 := n1_; have GW128 := n2_; have GE128 := n3_; clear n0_ n1_ n2_ n3_; clear hb hbox hg; have hcz12_0 : w11.cell? ⟨gb128, 0, none⟩ = some (.int .i64 a0_0) := (blk_cell BK128.out 0).trans rfl; have hcz12_1 : w11.cell? ⟨gb128, 1, none⟩ = some (.int .i64 a0_1) := (blk_cell BK128.out 1).trans rfl; have hfz12_0 := blk_frozen BK128.out 0; have hfz12_1 := blk_frozen BK128.out 1) | ((with_reducible refine gate_callee (f := 42) rfl ?_); refine goesL_ (some 5) rfl rfl Try.func42 (by kernel_rfl) rfl #[.int .i64 a0_0, .int .i64 5, .int .i64 199] rfl (by (try simp only [List.map_toArray, List.map_cons, List.map_nil]); first | done | rfl | (simp only [List.length_drop, List.length_take]; rfl)) ?_; (with_reducible refine (impl_within.calls a0_0 5 199 true _ A2.out).mono ?_); rintro e w' ⟨rfl, ⟨nd, rfl⟩⟩; refine ⟨_, rfl, ?_⟩) | (go_at_call 51; (with_reducible refine (impl_isPrime.calls k a0_0 true _ A4.out).mono ?_); rintro e w' ⟨rfl, ⟨nd, rfl⟩⟩) | (go_at_call 42; (with_reducible refine (impl_within.calls a0_1 2 (wrap64 (a0_0 - 1)) false _ A6.out).mono ?_); rintro e w' ⟨rfl, ⟨nd, rfl⟩⟩))
        go_ret
        exact ⟨by first | rfl | (simp [errW_none, errW_some] <;> rfl) | (simp [*, errW_none, errW_some] <;> rfl), by repeat (first | (with_reducible first | exact HB.out | apply below_alloc | apply pw_below_drewN | apply below_drew1 | refine below_set ?_ GE128.out) | exact HB.out)⟩
    · replace c5 := Bool.eq_false_iff.mpr c5
      subst c5
      have H1 : (some false) = some r := by rw [if_neg (show ¬ (false = true) by decide)] at H; exact H
      clear H
      have H := H1
      clear H1
      obtain rfl := Option.some.inj H
      go_enter Try.func39, Try.ntmps39
      go_wp2_with (first | ((with_reducible refine gate_dst (N := 1) rfl ?_); refine box_event ?hg (N := 1) ?hd (cs := #[.int .i64 a0_0, .int .i64 a0_1]) (t := 25) ?hr ?_; (case hd => rfl); (case hg => rfl); (case hr => first | (go_simp; done) | (go_simp; rfl)); intro gb128 hg w13 hbox hb; have n0_ := Aside0.mk (below_step (by repeat (first | (with_reducible first | exact HB.out | apply below_alloc | apply pw_below_drewN | apply below_drew1) | exact HB.out)) hb); have n1_ := Aside0.mk (hbox); have n2_ := Aside0.mk ((by rw [hg]; exact (below_size (by repeat (first | (with_reducible first | exact HB.out | apply below_alloc | apply pw_below_drewN | apply below_drew1) | exact HB.out))) : w.heap.size ≤ gb128)); have n3_ := Aside0.mk ((by rw [hg]; exact (below_size (by repeat (first | (with_reducible first | exact HB.out | apply below_alloc | apply pw_below_drewN | apply below_drew1) | exact HB.out))) : w.heap.size ≤ gb128)); clear HB; have HB := n0_; have BK128 := n1_; have GW128 := n2_; have GE128 := n3_; clear n0_ n1_ n2_ n3_; clear hb hbox hg; have hcz14_0 : w13.cell? ⟨gb128, 0, none⟩ = some (.int .i64 a0_0) := (blk_cell BK128.out 0).trans rfl; have hcz14_1 : w13.cell? ⟨gb128, 1, none⟩ = some (.int .i64 a0_1) := (blk_cell BK128.out 1).trans rfl; have hfz14_0 := blk_frozen BK128.out 0; have hfz14_1 := blk_frozen BK128.out 1) | ((with_reducible refine gate_callee (f := 42) rfl ?_); refine goesL_ (some 5) rfl rfl Try.func42 (by kernel_rfl) rfl #[.int .i64 a0_0, .int .i64 5, .int .i64 199] rfl (by (try simp only [List.map_toArray, List.map_cons, List.map_nil]); first | done | rfl | (simp only [List.length_drop, List.length_take]; rfl)) ?_; (with_reducible refine (impl_within.calls a0_0 5 199 true _ A2.out).mono ?_); rintro e w' ⟨rfl, ⟨nd, rfl⟩⟩; refine ⟨_, rfl, ?_⟩) | (go_at_call 51; (with_reducible refine (impl_isPrime.calls k a0_0 false _ A4.out).mono ?_); rintro e w' ⟨rfl, ⟨nd, rfl⟩⟩))
      go_ret
      exact ⟨by first | rfl | (simp [errW_none, errW_some] <;> rfl) | (simp [*, errW_none, errW_some] <;> rfl), by repeat (first | (with_reducible first | exact HB.out | apply below_alloc | apply pw_below_drewN | apply below_drew1 | refine below_set ?_ GE128.out) | exact HB.out)⟩
  · replace c3 := Bool.eq_false_iff.mpr c3
    subst c3
    have H1 : (some false) = some r := by rw [if_neg (show ¬ (false = true) by decide)] at H; exact H
    clear H
    have H := H1
    clear H1
    obtain rfl := Option.some.inj H
    go_enter Try.func39, Try.ntmps39
    go_wp2_with (first | ((with_reducible refine gate_dst (N := 1) rfl ?_); refine box_event ?hg (N := 1) ?hd (cs := #[.int .i64 a0_0, .int .i64 a0_1]) (t := 25) ?hr ?_; (case hd => rfl); (case hg => rfl); (case hr => first | (go_simp; done) | (go_simp; rfl)); intro gb128 hg w15 hbox hb; have n0_ := Aside0.mk (below_step (by repeat (first | (with_reducible first | exact HB.out | apply below_alloc | apply pw_below_drewN | apply below_drew1) | exact HB.out)) hb); have n1_ := Aside0.mk (hbox); have n2_ := Aside0.mk ((by rw [hg]; exact (below_size (by repeat (first | (with_reducible first | exact HB.out | apply below_alloc | apply pw_below_drewN | apply below_drew1) | exact HB.out))) : w.heap.size ≤ gb128)); have n3_ := Aside0.mk ((by rw [hg]; exact (below_size (by repeat (first | (with_reducible first | exact HB.out | apply below_alloc | apply pw_below_drewN | apply below_drew1) | exact HB.out))) : w.heap.size ≤ gb128)); clear HB; have HB := n0_; have BK128 := n1_; have GW128 := n2_; have GE128 := n3_; clear n0_ n1_ n2_ n3_; clear hb hbox hg; have hcz16_0 : w15.cell? ⟨gb128, 0, none⟩ = some (.int .i64 a0_0) := (blk_cell BK128.out 0).trans rfl; have hcz16_1 : w15.cell? ⟨gb128, 1, none⟩ = some (.int .i64 a0_1) := (blk_cell BK128.out 1).trans rfl; have hfz16_0 := blk_frozen BK128.out 0; have hfz16_1 := blk_frozen BK128.out 1) | ((with_reducible refine gate_callee (f := 42) rfl ?_); refine goesL_ (some 5) rfl rfl Try.func42 (by kernel_rfl) rfl #[.int .i64 a0_0, .int .i64 5, .int .i64 199] rfl (by (try simp only [List.map_toArray, List.map_cons, List.map_nil]); first | done | rfl | (simp only [List.length_drop, List.length_take]; rfl)) ?_; (with_reducible refine (impl_within.calls a0_0 5 199 false _ A2.out).mono ?_); rintro e w' ⟨rfl, ⟨nd, rfl⟩⟩; refine ⟨_, rfl, ?_⟩))
    go_ret
    exact ⟨by first | rfl | (simp [errW_none, errW_some] <;> rfl) | (simp [*, errW_none, errW_some] <;> rfl), by repeat (first | (with_reducible first | exact HB.out | apply below_alloc | apply pw_below_drewN | apply below_drew1 | refine below_set ?_ GE128.out) | exact HB.out)⟩

-- NOT PRINTED: function 58 (impl_Point_58)

-- NOT PRINTED: function 53 (impl_Point_53)

/-! ### impl_arePoints: function 46 -/
/-- a point in range and on the curve -/
def okP (p d : Int) (a : S29) : Bool := decide (0 ≤ a.f0 ∧ a.f0 ≤ p - 1) && decide (0 ≤ a.f1 ∧ a.f1 ≤ p - 1) && (impl_onCurve.f p d a.f0 a.f1 == some true)
def badP (p d : Int) (l : List S29) : Bool := l.any fun a => !okP p d a
theorem within_dec (a lo hi : Int) : impl_within.f a lo hi = some (decide (lo ≤ a ∧ a ≤ hi)) := by
  unfold impl_within.f
  by_cases h : a ≥ lo
  · rw [if_pos h]; congr 1; simp; omega
  · rw [if_neg h]; congr 1; simp; omega
theorem on_total {p : Int} (hp : p ≠ 0) (d x y : Int) : ∃ b, impl_onCurve.f p d x y = some b := by
  unfold impl_onCurve.f
  rw [if_neg hp]
  exact ⟨_, rfl⟩
theorem not_point.calls (p d : Int) (a : S29) (g : Nat) (w : World) (hp : 5 ≤ p ∧ p ≤ 199) (hg : w.heap[g]? = some (.cells #[.int .i64 p, .int .i64 d] 25 (0, 0))) :
    Calls Try.prog 54 #[.agg #[.int .i64 a.f0, .int .i64 a.f1], .pointer (some ⟨g, 0, none⟩)] w fun e w' => e = .returned (.bool (!okP p d a)) ∧ Below w.heap.size w w' := by
  obtain ⟨x, y⟩ := a
  have hbox := Aside0.mk (Below.alloc (Below.refl w.heap.size w) (Nat.le_refl _) (.cells #[.int .i64 x, .int .i64 y] 29))
  obtain ⟨v, hv⟩ : ∃ v, okP p d ⟨x, y⟩ = v := ⟨_, rfl⟩
  rw [hv]
  have HV := Aside0.mk hv
  clear hv
  have hc0 : w.cell? ⟨g, 0, none⟩ = some (.int .i64 p) := (blk_cell hg 0).trans rfl
  have hc1 : w.cell? ⟨g, 1, none⟩ = some (.int .i64 d) := (blk_cell hg 1).trans rfl
  have hglt := blk_lt hg
  have HG := Aside0.mk hg
  clear hg
  obtain ⟨p5, p199⟩ := hp
  by_cases hx : 0 ≤ x ∧ x ≤ p - 1
  · have A1 := Aside0.mk (show impl_within.f x 0 (p - 1) = some true by rw [within_dec, decide_eq_true hx])
    by_cases hy : 0 ≤ y ∧ y ≤ p - 1
    · have A2 := Aside0.mk (show impl_within.f y 0 (p - 1) = some true by rw [within_dec, decide_eq_true hy])
      obtain ⟨b, hb⟩ := on_total (show p ≠ 0 by omega) d x y
      have hvb : v = b := by
        rw [← HV.out]
        unfold okP
        rw [decide_eq_true hx, decide_eq_true hy]
        show (true && true && (impl_onCurve.f p d x y == some true)) = b
        rw [hb]
        cases b <;> rfl
      have A3 := Aside0.mk hb
      subst hvb
      clear hx hy hb
      go_enter Try.func54, Try.ntmps54
      go_wp2_with fail
      refine (impl_within.calls x 0 (p - 1) true _ A1.out).mono ?_
      rintro e w' ⟨rfl, ⟨n1, rfl⟩⟩
      go_wp2_with fail
      refine (impl_within.calls y 0 (p - 1) true _ A2.out).mono ?_
      rintro e w' ⟨rfl, ⟨n2, rfl⟩⟩
      go_wp2_with fail
      refine (impl_onCurve.calls p d x y v _ A3.out).mono ?_
      rintro e w' ⟨rfl, hb⟩
      have HB := Aside0.mk (below_step (pw_below_drewN hbox.out (n1 + n2)) hb)
      clear hb
      go_wp2_with fail
      go_ret
      exact ⟨rfl, HB.out⟩
    · have A2 := Aside0.mk (show impl_within.f y 0 (p - 1) = some false by rw [within_dec, decide_eq_false hy])
      have hvb : v = false := by
        rw [← HV.out]
        unfold okP
        rw [decide_eq_true hx, decide_eq_false hy]
        rfl
      subst hvb
      clear hx hy
      go_enter Try.func54, Try.ntmps54
      go_wp2_with fail
      refine (impl_within.calls x 0 (p - 1) true _ A1.out).mono ?_
      rintro e w' ⟨rfl, ⟨n1, rfl⟩⟩
      go_wp2_with fail
      refine (impl_within.calls y 0 (p - 1) false _ A2.out).mono ?_
      rintro e w' ⟨rfl, ⟨n2, rfl⟩⟩
      go_wp2_with fail
      go_ret
      exact ⟨rfl, pw_below_drewN hbox.out (n1 + n2)⟩
  · have A1 := Aside0.mk (show impl_within.f x 0 (p - 1) = some false by rw [within_dec, decide_eq_false hx])
    have hvb : v = false := by
      rw [← HV.out]
      unfold okP
      rw [decide_eq_false hx]
      rfl
    subst hvb
    clear hx
    go_enter Try.func54, Try.ntmps54
    go_wp2_with fail
    refine (impl_within.calls x 0 (p - 1) false _ A1.out).mono ?_
    rintro e w' ⟨rfl, ⟨n1, rfl⟩⟩
    go_wp2_with fail
    go_ret
    exact ⟨rfl, pw_below_drewN hbox.out n1⟩
theorem badP_cons (p d : Int) (a : S29) (l : List S29) : badP p d (a :: l) = ((!okP p d a) || badP p d l) := rfl
theorem drop_T29 (l : List S29) (i : Nat) (h : i < l.length) : l.drop i = rd_T29 l (i : Int) :: l.drop (i + 1) := by
  rw [List.drop_eq_getElem_cons h]
  congr 1
  unfold rd_T29
  rw [List.getD_eq_getElem?_getD, Int.toNat_natCast, List.getElem?_eq_getElem h]
  simp
theorem index_point.calls (p d : Int) (A0 : Option Addr) (c0 : Nat) (l0 : List S29) (g : Nat) (w : World) (hr0 : Kd.C k29 w A0 l0.length l0) (hc0 : l0.length ≤ c0) (hl : l0.length ≤ 1000) (hp : 5 ≤ p ∧ p ≤ 199) (hg : w.heap[g]? = some (.cells #[.int .i64 p, .int .i64 d] 25 (0, 0))) :
    Calls Try.prog 58 #[.slice A0 l0.length c0, .func (Fn.func 54) #[] #[.pointer (some ⟨g, 0, none⟩)]] w fun e w' => (∃ j : Int, e = .returned (.int .i64 j) ∧ decide (0 ≤ j) = badP p d l0) ∧ Below w.heap.size w w' := by
  have HR0 := Aside0.mk hr0
  have HC0 := Aside0.mk hc0
  have HG := Aside0.mk hg
  have HP := Aside0.mk hp
  clear hr0 hc0 hg hp
  go_enter Try.func58, Try.ntmps58
  go_wp2
  go_loopg [8] (l0.length) (fun kq v8 w' => ∃ i : Nat, v8 = .int .i64 (i : Int) ∧ Aside0 (i + kq = l0.length) ∧ Aside0 (badP p d (l0.drop i) = badP p d l0) ∧ Aside0 (Below w.heap.size w w'))
  case atStart => exact ⟨0, rfl, ⟨by omega⟩, ⟨rfl⟩, ⟨Below.refl _ _⟩⟩
  case round =>
    obtain ⟨i, rfl, hik, hbad, hB⟩ := hrel
    by_cases hlt : i < l0.length
    · have c2 : decide ((i : Int) < (l0.length : Int)) = true := decide_eq_true (by omega)
      obtain ⟨b, hb⟩ : ∃ b, okP p d (rd_T29 l0 (i : Int)) = b := ⟨_, rfl⟩
      have hd := drop_T29 l0 i hlt
      have B := Aside0.mk hb
      have D := Aside0.mk hd
      clear hb hd
      have p110 : 0 ≤ (i : Int) := by omega
      have q110 : (i : Int) < (l0.length : Int) := by omega
      obtain ⟨ad110, e110, hx110_0, hx110_1⟩ := at_T29 (Kd.C_below HR0.out hB.out) (i : Int) p110 q110
      cases e110
      simp only [Int.toNat_natCast] at hx110_0 hx110_1
      replace p110 := eq_true p110
      replace q110 := eq_true q110
      go_wp2_with fail
      refine (not_point.calls p d (rd_T29 l0 (i : Int)) g _ HP.out (blk_below HG.out hB.out)).mono ?_
      rintro e w2 ⟨rfl, hb⟩
      have HB := Aside0.mk (below_step hB.out hb)
      clear hb
      rw [B.out]
      have hrd := hbad.out
      rw [D.out, badP_cons, B.out] at hrd
      have HD := Aside0.mk hrd
      clear hrd
      cases b with
      | true =>
        go_wp2_with fail
        go_roundg (gk - 1)
        case measure => have := hik.out; omega
        case rel => exact ⟨i + 1, by simp, ⟨by have := hik.out; omega⟩, ⟨by have h := HD.out; simpa using h⟩, HB⟩
      | false =>
        go_wp2_with fail
        go_ret
        refine ⟨⟨(i : Int), rfl, ?_⟩, HB.out⟩
        have h : true = badP p d l0 := HD.out
        rw [← h]
        simp
    · have c2 : decide ((i : Int) < (l0.length : Int)) = false := decide_eq_false (by omega)
      go_wp2
      go_ret
      refine ⟨⟨-1, rfl, ?_⟩, hB.out⟩
      have h := hbad.out
      rw [List.drop_eq_nil_of_le (by omega)] at h
      rw [← h]
      rfl
theorem contains_point.calls (p d : Int) (A0 : Option Addr) (c0 : Nat) (l0 : List S29) (g : Nat) (w : World) (hr0 : Kd.C k29 w A0 l0.length l0) (hc0 : l0.length ≤ c0) (hl : l0.length ≤ 1000) (hp : 5 ≤ p ∧ p ≤ 199) (hg : w.heap[g]? = some (.cells #[.int .i64 p, .int .i64 d] 25 (0, 0))) :
    Calls Try.prog 53 #[.slice A0 l0.length c0, .func (Fn.func 54) #[] #[.pointer (some ⟨g, 0, none⟩)]] w fun e w' => e = .returned (.bool (badP p d l0)) ∧ Below w.heap.size w w' := by
  have HR0 := Aside0.mk hr0
  have HC0 := Aside0.mk hc0
  have HG := Aside0.mk hg
  have HP := Aside0.mk hp
  clear hr0 hc0 hg hp
  go_enter Try.func53, Try.ntmps53
  go_wp2_with fail
  refine (index_point.calls p d A0 c0 l0 g _ HR0.out HC0.out hl HP.out HG.out).mono ?_
  rintro e w' ⟨⟨j, rfl, hj⟩, hd⟩
  have D := Aside0.mk hd
  have J := Aside0.mk hj
  clear hd hj
  go_wp2
  go_ret
  refine ⟨?_, D.out⟩
  rw [← J.out]
  rfl
theorem curve_range {k : Nat} {p d : Int} (h : impl_isCurve.f k p d = some true) : 5 ≤ p ∧ p ≤ 199 := by
  unfold impl_isCurve.f at h
  rw [within_dec, Option.bind_some] at h
  by_cases hp : 5 ≤ p ∧ p ≤ 199
  · exact hp
  · rw [decide_eq_false hp] at h
    simp at h
def impl_arePoints.f (k : Nat) (a0_0 : Int) (a0_1 : Int) (l1 : List S29) : Option (Bool) := if 1000 < l1.length then none else (impl_isCurve.f k a0_0 a0_1).bind fun b => if b = true then some (!badP a0_0 a0_1 l1) else some false
theorem impl_arePoints.mono : ∀ a0 a1 a2 k, LeO (impl_arePoints.f k a0 a1 a2) (impl_arePoints.f (k + 1) a0 a1 a2) := by
  intro a0 a1 a2 k
  unfold impl_arePoints.f
  exact LeO.ite (LeO.none _) (LeO.bind (impl_isCurve.mono _ _ _) (fun _ => LeO.refl _))
theorem impl_arePoints.calls (k : Nat) (a0_0 : Int) (a0_1 : Int) (A1 : Option Addr) (c1 : Nat) (l1 : List S29) (r : Bool) (w : World) (hr1 : Kd.C k29 w A1 l1.length l1) (hc1 : l1.length ≤ c1) (h : impl_arePoints.f k a0_0 a0_1 l1 = some r) :
    Calls Try.prog 46 #[.agg #[.int .i64 a0_0, .int .i64 a0_1], .slice A1 l1.length c1] w fun e w' => e = .returned (.bool r) ∧ Below w.heap.size w w' := by
  have HR1 := Aside0.mk hr1
  have HC1 := Aside0.mk hc1
  clear hr1 hc1
  unfold impl_arePoints.f at h
  have hl : l1.length ≤ 1000 := by
    by_cases hl : 1000 < l1.length
    · rw [if_pos hl] at h
      cases h
    · omega
  rw [if_neg (by omega)] at h
  obtain ⟨b, hcv, h⟩ := Option.bind_eq_some_iff.mp h
  have HCV := Aside0.mk hcv
  have hb0 := Aside0.mk (Below.alloc (Below.refl w.heap.size w) (Nat.le_refl _) (.cells #[.int .i64 a0_0, .int .i64 a0_1] 25))
  have hg0 := Aside0.mk (blk_new w (.cells #[.int .i64 a0_0, .int .i64 a0_1] 25 (0, 0)))
  have hcc0 : (w.alloc (.cells #[.int .i64 a0_0, .int .i64 a0_1] 25)).cell? ⟨w.heap.size, 0, none⟩ = some (.int .i64 a0_0) := (blk_cell hg0.out 0).trans rfl
  clear hcv
  cases b with
  | true =>
    rw [if_pos rfl] at h
    obtain rfl := Option.some.inj h
    clear h
    go_enter Try.func46, Try.ntmps46
    go_wp2_with fail
    refine (impl_isCurve.calls k a0_0 a0_1 true _ HCV.out).mono ?_
    rintro e w1 ⟨rfl, hb⟩
    have HB1 := Aside0.mk (below_step hb0.out hb)
    have HG1 := Aside0.mk (blk_below hg0.out hb)
    clear hb
    go_wp2_with fail
    refine (contains_point.calls a0_0 a0_1 A1 c1 l1 w.heap.size _ (Kd.C_below HR1.out HB1.out) HC1.out hl (curve_range HCV.out) HG1.out).mono ?_
    rintro e w2 ⟨rfl, hb⟩
    have HB2 := Aside0.mk (below_step HB1.out hb)
    clear hb
    go_wp2_with fail
    go_ret
    exact ⟨rfl, HB2.out⟩
  | false =>
    rw [if_neg (by simp)] at h
    obtain rfl := Option.some.inj h
    clear h
    go_enter Try.func46, Try.ntmps46
    go_wp2_with fail
    refine (impl_isCurve.calls k a0_0 a0_1 false _ HCV.out).mono ?_
    rintro e w1 ⟨rfl, hb⟩
    have HB1 := Aside0.mk (below_step hb0.out hb)
    clear hb
    go_wp2_with fail
    go_ret
    exact ⟨rfl, HB1.out⟩


/-! ### impl_addPoints: function 48 -/
def ovN (p n : Int) : Int := Int.tmod (wrap64 (Int.tmod n p + p)) p
/-- a quotient modulo p, as the program reckons it -/
def ovF (k : Nat) (p num den : Int) : Option Int := (impl_powerMod.f k (ovN p den) (p - 2) p).bind fun t => some (Int.tmod (wrap64 (ovN p num * t)) p)
theorem over.calls (k : Nat) (p d num den r : Int) (g : Nat) (w : World) (hp : 5 ≤ p ∧ p ≤ 199) (hg : w.heap[g]? = some (.cells #[.int .i64 p, .int .i64 d] 25 (0, 0))) (h : ovF k p num den = some r) :
    Calls Try.prog 56 #[.int .i64 num, .int .i64 den, .pointer (some ⟨g, 0, none⟩)] w fun e w' => e = .returned (.int .i64 r) ∧ Drawn0 w w' := by
  obtain ⟨t, ht, h⟩ := Option.bind_eq_some_iff.mp h
  obtain rfl := Option.some.inj h
  have HT := Aside0.mk ht
  clear h ht
  have hc0 : w.cell? ⟨g, 0, none⟩ = some (.int .i64 p) := (blk_cell hg 0).trans rfl
  have hglt := blk_lt hg
  clear hg
  obtain ⟨p5, p199⟩ := hp
  have hp0 : (p == 0) = false := by simp; omega
  go_enter Try.func56, Try.ntmps56
  go_wp2
  go_quiet (fail)
  go_wp2_with fail
  have hc1 : (w.drewN nq).cell? ⟨g, 0, none⟩ = some (.int .i64 p) := hc0
  obtain ⟨w1, hw1⟩ : ∃ w1, w.drewN nq = w1 := ⟨_, rfl⟩
  rw [hw1] at hc1 ⊢
  have HW := Aside0.mk hw1
  clear hw1 hc0
  have hq : ∀ n, Calls Try.prog 57 #[.int .i64 ((wrap64 (den.tmod p + p)).tmod p), .int .i64 (p - 2), .int .i64 p] (w1.drewN n) fun e w'' => e = .returned (.int .i64 t) ∧ ∃ m, w'' = w1.drewN m := fun n => Calls.quiet_of (Calls.mono (impl_powerMod.calls k (ovN p den) (p - 2) p t _ HT.out) fun _ _ hh => ⟨hh.1, hh.2.out⟩)
  have hw2 : IntKind.i64.wrap (p - 2) = p - 2 := by rw [IntKind.wrap_i64]; omega
  go_quiet ((go_at_call 57; exact hq _))
  go_wp2_with fail
  go_ret
  refine ⟨rfl, ?_⟩
  rw [← HW.out]
  exact ⟨⟨_, World.drewN_drewN _ _ _⟩⟩
/-- the coordinates of a point, in bounds -/
def inP (p x : Int) : Bool := decide (0 ≤ x ∧ x ≤ p - 1)
def addM (p d ax ay bx by_ : Int) : Int := Int.tmod (Int.tmod (Int.tmod (Int.tmod (d * ax) p * bx) p * ay) p * by_) p
theorem wmul {a b : Int} (ha : 0 ≤ a ∧ a ≤ 199) (hb : 0 ≤ b ∧ b ≤ 199) : IntKind.i64.wrap (a * b) = a * b := by
  have h1 : 0 ≤ a * b := Int.mul_nonneg ha.1 hb.1
  have h2 : a * b ≤ 199 * 199 := Int.mul_le_mul ha.2 hb.2 hb.1 (by omega)
  generalize a * b = x at h1 h2 ⊢
  clear ha hb
  rw [IntKind.wrap_i64]
  omega
theorem tmb {x p : Int} (hx : 0 ≤ x) (hp : 5 ≤ p ∧ p ≤ 199) : 0 ≤ Int.tmod x p ∧ Int.tmod x p ≤ 199 := by
  have := Int.tmod_lt_of_pos x (show 0 < p by omega)
  have := Int.tmod_nonneg p hx
  omega
theorem wsum1 {m : Int} (h : 0 ≤ m ∧ m ≤ 199) : IntKind.i64.wrap (1 + m) = 1 + m := by
  rw [IntKind.wrap_i64]; omega
theorem wsum2 {m : Int} (h : 0 ≤ m ∧ m ≤ 199) : IntKind.i64.wrap (1 - m) = 1 - m := by
  rw [IntKind.wrap_i64]; omega
theorem wsum0 {m n : Int} (h : 0 ≤ m ∧ m ≤ 39601) (h' : 0 ≤ n ∧ n ≤ 39601) : IntKind.i64.wrap (m + n) = m + n ∧ IntKind.i64.wrap (m - n) = m - n := by
  constructor <;> (rw [IntKind.wrap_i64]; omega)
theorem mul39 {a b : Int} (ha : 0 ≤ a ∧ a ≤ 199) (hb : 0 ≤ b ∧ b ≤ 199) : 0 ≤ a * b ∧ a * b ≤ 39601 :=
  ⟨Int.mul_nonneg ha.1 hb.1, Int.mul_le_mul ha.2 hb.2 hb.1 (by omega)⟩
theorem wsum3 {a b c d : Int} (ha : 0 ≤ a ∧ a ≤ 199) (hb : 0 ≤ b ∧ b ≤ 199) (hc : 0 ≤ c ∧ c ≤ 199) (hd : 0 ≤ d ∧ d ≤ 199) : IntKind.i64.wrap (a * b + c * d) = a * b + c * d := (wsum0 (mul39 ha hb) (mul39 hc hd)).1
theorem wsum4 {a b c d : Int} (ha : 0 ≤ a ∧ a ≤ 199) (hb : 0 ≤ b ∧ b ≤ 199) (hc : 0 ≤ c ∧ c ≤ 199) (hd : 0 ≤ d ∧ d ≤ 199) : IntKind.i64.wrap (a * b - c * d) = a * b - c * d := (wsum0 (mul39 ha hb) (mul39 hc hd)).2
theorem pmul {a b : Int} (ha : 0 ≤ a ∧ a ≤ 199) (hb : 0 ≤ b ∧ b ≤ 199) : 0 ≤ a * b := Int.mul_nonneg ha.1 hb.1
def impl_addPoints.f (k : Nat) (p : Int) (d : Int) (ax : Int) (ay : Int) (bx : Int) (by_ : Int) : Option (Int × Int) :=
  if (5 ≤ p ∧ p ≤ 199) ∧ (0 ≤ d ∧ d ≤ p - 1) ∧ (0 ≤ ax ∧ ax ≤ p - 1) ∧ (0 ≤ ay ∧ ay ≤ p - 1) ∧ (0 ≤ bx ∧ bx ≤ p - 1) ∧ (0 ≤ by_ ∧ by_ ≤ p - 1) then
    (ovF k p (ax * by_ + ay * bx) (1 + addM p d ax ay bx by_)).bind fun x =>
    (ovF k p (ay * by_ - ax * bx) (1 - addM p d ax ay bx by_)).bind fun y => some (x, y)
  else none
theorem impl_addPoints.mono : ∀ a0 a1 a2 a3 a4 a5 k, LeO (impl_addPoints.f k a0 a1 a2 a3 a4 a5) (impl_addPoints.f (k + 1) a0 a1 a2 a3 a4 a5) := by
  intro a0 a1 a2 a3 a4 a5 k
  unfold impl_addPoints.f
  refine LeO.ite ?_ (LeO.none _)
  refine LeO.bind (LeO.bind (impl_powerMod.mono _ _ _ _) fun _ => LeO.refl _) fun _ => ?_
  exact LeO.bind (LeO.bind (impl_powerMod.mono _ _ _ _) fun _ => LeO.refl _) fun _ => LeO.refl _
set_option maxRecDepth 100000 in
set_option maxHeartbeats 3200000 in
theorem impl_addPoints.calls (k : Nat) (p d ax ay bx by_ r1 r2 : Int) (w : World) (h : impl_addPoints.f k p d ax ay bx by_ = some (r1, r2)) :
    Calls Try.prog 48 #[.agg #[.int .i64 p, .int .i64 d], .agg #[.int .i64 ax, .int .i64 ay], .agg #[.int .i64 bx, .int .i64 by_]] w fun e w' => e = .returned (.agg #[.int .i64 r1, .int .i64 r2]) ∧ Below w.heap.size w w' := by
  unfold impl_addPoints.f at h
  by_cases hb : (5 ≤ p ∧ p ≤ 199) ∧ (0 ≤ d ∧ d ≤ p - 1) ∧ (0 ≤ ax ∧ ax ≤ p - 1) ∧ (0 ≤ ay ∧ ay ≤ p - 1) ∧ (0 ≤ bx ∧ bx ≤ p - 1) ∧ (0 ≤ by_ ∧ by_ ≤ p - 1)
  · rw [if_pos hb] at h
    obtain ⟨x, hx, h⟩ := Option.bind_eq_some_iff.mp h
    obtain ⟨y, hy, h⟩ := Option.bind_eq_some_iff.mp h
    obtain ⟨rfl, rfl⟩ := Prod.mk.inj (Option.some.inj h)
    clear h
    have HX := Aside0.mk hx
    have HY := Aside0.mk hy
    clear hx hy
    have HP := Aside0.mk hb.1
    have hp0 : (p == 0) = false := by simp; omega
    have b1 : 0 ≤ d ∧ d ≤ 199 := by omega
    have b2 : 0 ≤ ax ∧ ax ≤ 199 := by omega
    have b3 : 0 ≤ ay ∧ ay ≤ 199 := by omega
    have b4 : 0 ≤ bx ∧ bx ≤ 199 := by omega
    have b5 : 0 ≤ by_ ∧ by_ ≤ 199 := by omega
    have wm1 := wmul b1 b2
    have t1 := tmb (pmul b1 b2) HP.out
    have wm2 := wmul t1 b4
    have t2 := tmb (pmul t1 b4) HP.out
    have wm3 := wmul t2 b3
    have t3 := tmb (pmul t2 b3) HP.out
    have wm4 := wmul t3 b5
    have t4 := tmb (pmul t3 b5) HP.out
    have W1 := Aside0.mk (wmul b2 b5)
    have W2 := Aside0.mk (wmul b3 b4)
    have W3 := Aside0.mk (wmul b3 b5)
    have W4 := Aside0.mk (wmul b2 b4)
    have T4 := Aside0.mk (show 0 ≤ addM p d ax ay bx by_ ∧ addM p d ax ay bx by_ ≤ 199 from t4)
    have W5 := Aside0.mk (wsum1 T4.out)
    have W6 := Aside0.mk (wsum2 T4.out)
    have W7 := Aside0.mk (wsum3 b2 b5 b3 b4)
    have W8 := Aside0.mk (wsum4 b3 b5 b2 b4)
    clear t1 t2 t3 t4 b1 b2 b3 b4 b5
    clear hb
    go_enter Try.func48, Try.ntmps48
    go_wp2_with fail
    have hsz : ∀ (W : World) (o : Obj), (W.alloc o).heap.size = W.heap.size + 1 := fun W o => by show (W.heap.push o).size = _; simp
    obtain ⟨W, hW⟩ : ∃ W, (((w.alloc (.cells #[.int .i64 p, .int .i64 d] 25)).alloc (.cells #[.int .i64 ax, .int .i64 ay] 29)).alloc (.cells #[.int .i64 bx, .int .i64 by_] 29)).alloc (.cells #[.int .i64 0, .int .i64 0] 29) = W := ⟨_, rfl⟩
    have hbel : Below w.heap.size w W := by
      rw [← hW]
      refine Below.alloc ?_ (by simp only [hsz]; omega) _
      refine Below.alloc ?_ (by simp only [hsz]; omega) _
      refine Below.alloc ?_ (by simp only [hsz]; omega) _
      exact Below.alloc (Below.refl _ _) (Nat.le_refl _) _
    have hC : W.heap[w.heap.size]? = some (.cells #[.int .i64 p, .int .i64 d] 25 (0, 0)) := by
      rw [← hW]
      exact blk_alloc (blk_alloc (blk_alloc (blk_new _ _) _) _) _
    have hA : W.heap[w.heap.size + 1]? = some (.cells #[.int .i64 ax, .int .i64 ay] 29 (0, 0)) := by
      rw [← hW]
      have e := blk_alloc (blk_alloc (blk_new (w.alloc (.cells #[.int .i64 p, .int .i64 d] 25)) (.cells #[.int .i64 ax, .int .i64 ay] 29)) (.cells #[.int .i64 bx, .int .i64 by_] 29)) (.cells #[.int .i64 0, .int .i64 0] 29)
      simp only [hsz] at e
      exact e
    have hB : W.heap[w.heap.size + 1 + 1]? = some (.cells #[.int .i64 bx, .int .i64 by_] 29 (0, 0)) := by
      rw [← hW]
      have e := blk_alloc (blk_new ((w.alloc (.cells #[.int .i64 p, .int .i64 d] 25)).alloc (.cells #[.int .i64 ax, .int .i64 ay] 29)) (.cells #[.int .i64 bx, .int .i64 by_] 29)) (.cells #[.int .i64 0, .int .i64 0] 29)
      simp only [hsz] at e
      exact e
    have hR : W.heap[w.heap.size + 1 + 1 + 1]? = some (.cells #[.int .i64 0, .int .i64 0] 29 (0, 0)) := by
      rw [← hW]
      have e := blk_new (((w.alloc (.cells #[.int .i64 p, .int .i64 d] 25)).alloc (.cells #[.int .i64 ax, .int .i64 ay] 29)).alloc (.cells #[.int .i64 bx, .int .i64 by_] 29)) (.cells #[.int .i64 0, .int .i64 0] 29)
      simp only [hsz] at e
      exact e
    rw [hW]
    clear hW hsz
    have HB00 := Aside0.mk hbel
    obtain ⟨g, hgg⟩ : ∃ g, w.heap.size = g := ⟨_, rfl⟩
    rw [hgg] at hC hA hB hR
    simp only [hgg]
    have c1 : W.cell? ⟨g, 0, none⟩ = some (.int .i64 p) := (blk_cell hC 0).trans rfl
    have c2 : W.cell? ⟨g, 1, none⟩ = some (.int .i64 d) := (blk_cell hC 1).trans rfl
    have c3 : W.cell? ⟨g + 1, 0, none⟩ = some (.int .i64 ax) := (blk_cell hA 0).trans rfl
    have c4 : W.cell? ⟨g + 1, 1, none⟩ = some (.int .i64 ay) := (blk_cell hA 1).trans rfl
    have c5 : W.cell? ⟨g + 1 + 1, 0, none⟩ = some (.int .i64 bx) := (blk_cell hB 0).trans rfl
    have c6 : W.cell? ⟨g + 1 + 1, 1, none⟩ = some (.int .i64 by_) := (blk_cell hB 1).trans rfl
    have HBEL := HB00
    have HCC := Aside0.mk hC
    have HR := Aside0.mk hR
    have hltR := blk_lt hR
    have hltC := blk_lt hC
    clear hbel hC hA hB hR
    have hp1 : ¬ (p = 0) := by have := HP.out; omega
    go_quiet (fail)
    go_wp2_with fail
    obtain ⟨m, hm⟩ : ∃ m, Int.tmod (Int.tmod (Int.tmod (Int.tmod (d * ax) p * bx) p * ay) p * by_) p = m := ⟨_, rfl⟩
    have HM := Aside0.mk (show addM p d ax ay bx by_ = m from hm)
    rw [hm]
    clear hm wm1 wm2 wm3 wm4
    have w1 := W1.out
    have w2 := W2.out
    have w3 := W3.out
    have w4 := W4.out
    have w5 : IntKind.i64.wrap (1 + m) = 1 + m := by rw [← HM.out]; exact W5.out
    have w6 : IntKind.i64.wrap (1 - m) = 1 - m := by rw [← HM.out]; exact W6.out
    have w7 := W7.out
    have w8 := W8.out
    obtain ⟨V, hV⟩ : ∃ V, W.drewN nq = V := ⟨_, rfl⟩
    have hCV : V.heap[g]? = some (.cells #[.int .i64 p, .int .i64 d] 25 (0, 0)) := by rw [← hV]; exact HCC.out
    have HRV := Aside0.mk (show V.heap[g + 1 + 1 + 1]? = some (.cells #[.int .i64 0, .int .i64 0] 29 (0, 0)) by rw [← hV]; exact HR.out)
    have c3 : V.cell? ⟨g + 1, 0, none⟩ = some (.int .i64 ax) := by rw [← hV]; exact c3
    have c4 : V.cell? ⟨g + 1, 1, none⟩ = some (.int .i64 ay) := by rw [← hV]; exact c4
    have c5 : V.cell? ⟨g + 1 + 1, 0, none⟩ = some (.int .i64 bx) := by rw [← hV]; exact c5
    have c6 : V.cell? ⟨g + 1 + 1, 1, none⟩ = some (.int .i64 by_) := by rw [← hV]; exact c6
    have HBV := Aside0.mk (show Below w.heap.size w V by rw [← hV]; exact pw_below_drewN HBEL.out _)
    have hltR : g + 1 + 1 + 1 < V.heap.size := by rw [← hV]; exact hltR
    have hltC : g < V.heap.size := by rw [← hV]; exact hltC
    rw [hV]
    have HX' := Aside0.mk (show ovF k p (ax * by_ + ay * bx) (1 + m) = some x by rw [← HM.out]; exact HX.out)
    have HY' := Aside0.mk (show ovF k p (ay * by_ - ax * bx) (1 - m) = some y by rw [← HM.out]; exact HY.out)
    have HCV := Aside0.mk hCV
    have cr0 : V.cell? ⟨g + 1 + 1 + 1, 0, none⟩ = some (.int .i64 0) := (blk_cell HRV.out 0).trans rfl
    have cr1 : V.cell? ⟨g + 1 + 1 + 1, 1, none⟩ = some (.int .i64 0) := (blk_cell HRV.out 1).trans rfl
    have fr0 : V.frozen? ⟨g + 1 + 1 + 1, 0, none⟩ = false := blk_frozen HRV.out 0
    have fr1 : V.frozen? ⟨g + 1 + 1 + 1, 1, none⟩ = false := blk_frozen HRV.out 1
    have ne1 : ¬ (g + 1 = g + 1 + 1 + 1) := by omega
    have ne2 : ¬ (g + 1 + 1 + 1 = g + 1) := by omega
    have ne3 : ¬ (g = g + 1 + 1) := by omega
    have ne4 : ¬ (g + 1 + 1 = g) := by omega
    clear hCV hV HX HY HM
    go_region_held3 (fun w' => w'.cell? ⟨g + 1, 0, none⟩ = some (.int .i64 ax) ∧ w'.cell? ⟨g + 1, 1, none⟩ = some (.int .i64 ay) ∧ w'.cell? ⟨g + 1 + 1, 0, none⟩ = some (.int .i64 bx) ∧ w'.cell? ⟨g + 1 + 1, 1, none⟩ = some (.int .i64 by_))
      (first
        | exact ⟨c3, c4, c5, c6⟩
        | go_keep)
      (first
        | (go_at_call 56
           with_reducible refine Calls.mono (over.calls k p d (ax * by_ + ay * bx) (1 + m) x g _ HP.out ?hg HX'.out) ?_
           (case hg => exact HCV.out)
           rintro e w' ⟨rfl, ⟨n1, rfl⟩⟩)
        | (go_at_call 56
           with_reducible refine Calls.mono (over.calls k p d (ay * by_ - ax * bx) (1 - m) y g _ HP.out ?hg HY'.out) ?_
           (case hg => exact HCV.out)
           rintro e w' ⟨rfl, ⟨n1, rfl⟩⟩))
    go_wp2
    have hblk : ∀ n, ((((V.drewN n).setCell ⟨g + 1 + 1 + 1, 0, none⟩ (.int .i64 x)).setCell ⟨g + 1 + 1 + 1, 1, none⟩ (.int .i64 y))).heap[g + 1 + 1 + 1]? = some (.cells #[.int .i64 x, .int .i64 y] 29 (0, 0)) := fun n => blk_put (blk_put (blk_drewN HRV.out n) 0 _ rfl) 1 _ rfl
    have hbl : ∀ n, Below w.heap.size w (((V.drewN n).setCell ⟨g + 1 + 1 + 1, 0, none⟩ (.int .i64 x)).setCell ⟨g + 1 + 1 + 1, 1, none⟩ (.int .i64 y)) := fun n => below_set (below_set (pw_below_drewN HBV.out n) (by omega)) (by omega)
    (try simp only [Exit.inBlock, Exit.then])
    refine bodyPost_ret (results_single (r := .cell 6 29) rfl (Vals.cell (g + 1 + 1 + 1) _ _ _ _ rfl (hblk _) Try.underlying29 rfl (by kernel_rfl) Vals.nil)) rfl ?_
    exact ⟨rfl, hbl _⟩
  · rw [if_neg hb] at h
    cases h


/-! ### laws_toCurve: function 14 -/
def laws_toCurve.f (a0_0 : Int) (a0_1 : Int) : Option (Int × Int) := some (a0_0, a0_1)
set_option maxHeartbeats 8000000 in
set_option maxRecDepth 100000 in
theorem laws_toCurve.calls (a0_0 : Int) (a0_1 : Int) (r1 : Int) (r2 : Int) (w : World) (h : laws_toCurve.f a0_0 a0_1 = some (r1, r2)) :
    Calls Try.prog 14 #[.agg #[.int .i64 a0_0, .int .i64 a0_1]] w fun e w' => e = .returned (.agg #[.int .i64 r1, .int .i64 r2]) ∧ Below w.heap.size w w' := by
  have hu23 := Try.underlying23
  have hu25 := Try.underlying25
  have HB := Aside0.mk (Below.refl w.heap.size w)
  have H : (some (a0_0, a0_1)) = some (r1, r2) := h
  clear h
  simp only [Option.some.injEq, Prod.mk.injEq] at H
  obtain ⟨rfl, rfl⟩ := H
  go_enter Try.func14, Try.ntmps14
  go_wp2_with (first | ((with_reducible refine gate_dst (N := 1) rfl ?_); refine box_event ?hg (N := 1) ?hd (cs := #[.int .i64 a0_0, .int .i64 a0_1]) (t := 23) ?hr ?_; (case hd => rfl); (case hg => rfl); (case hr => first | (go_simp; done) | (go_simp; rfl)); intro gb133 hg w2 hbox hb; have n0_ := Aside0.mk (below_step (by repeat (first | (with_reducible first | exact HB.out | apply below_alloc | apply pw_below_drewN | apply below_drew1) | exact HB.out)) hb); have n1_ := Aside0.mk (hbox); have n2_ := Aside0.mk ((by rw [hg]; exact (below_size (by repeat (first | (with_reducible first | exact HB.out | apply below_alloc | apply pw_below_drewN | apply below_drew1) | exact HB.out))) : w.heap.size ≤ gb133)); have n3_ := Aside0.mk ((by rw [hg]; exact (below_size (by repeat (first | (with_reducible first | exact HB.out | apply below_alloc | apply pw_below_drewN | apply below_drew1) | exact HB.out))) : w.heap.size ≤ gb133)); clear HB; have HB := n0_; have BK133 := n1_; have GW133 := n2_; have GE133 := n3_; clear n0_ n1_ n2_ n3_; clear hb hbox hg) | ((with_reducible refine gate_dst (N := 2) rfl ?_); refine box_event ?hg (N := 2) ?hd (cs := #[.int .i64 0, .int .i64 0]) (t := 25) ?hr ?_; (case hd => rfl); (case hg => rfl); (case hr => first | (go_simp; done) | (go_simp; rfl)); intro gb134 hg w3 hbox hb; have n0_ := Aside0.mk (blk_below (g := gb133) (o := .cells #[.int .i64 a0_0, .int .i64 a0_1] 23 (0, 0)) (by (with_reducible repeat (first | refine blk_drewN ?_ _ | refine blk_drew ?_ | refine blk_alloc ?_ _)); exact BK133.out) hb); have n1_ := Aside0.mk (below_step (by repeat (first | (with_reducible first | exact HB.out | apply below_alloc | apply pw_below_drewN | apply below_drew1 | refine below_set ?_ GE133.out) | exact HB.out)) hb); have n2_ := Aside0.mk (hbox); have n3_ := Aside0.mk ((by rw [hg]; exact (below_size (by repeat (first | (with_reducible first | exact HB.out | apply below_alloc | apply pw_below_drewN | apply below_drew1 | refine below_set ?_ GE133.out) | exact HB.out))) : w.heap.size ≤ gb134)); have n4_ := Aside0.mk ((by rw [hg]; exact (below_size (by repeat (first | (with_reducible first | exact HB.out | apply below_alloc | apply pw_below_drewN | apply below_drew1 | refine below_set ?_ GE133.out) | exact HB.out))) : w.heap.size ≤ gb134)); have n5_ := Aside0.mk ((by rw [hg]; exact Nat.ne_of_lt (blk_lt (g := gb133) (o := .cells #[.int .i64 a0_0, .int .i64 a0_1] 23 (0, 0)) (by (with_reducible repeat (first | refine blk_drewN ?_ _ | refine blk_drew ?_ | refine blk_alloc ?_ _)); exact BK133.out)) : gb133 ≠ gb134)); have n6_ := Aside0.mk ((by rw [hg]; exact Nat.ne_of_gt (blk_lt (g := gb133) (o := .cells #[.int .i64 a0_0, .int .i64 a0_1] 23 (0, 0)) (by (with_reducible repeat (first | refine blk_drewN ?_ _ | refine blk_drew ?_ | refine blk_alloc ?_ _)); exact BK133.out)) : gb134 ≠ gb133)); clear BK133; clear HB; have BK133 := n0_; have HB := n1_; have BK134 := n2_; have GW134 := n3_; have GE134 := n4_; have NB133_134 := n5_; have NB134_133 := n6_; clear n0_ n1_ n2_ n3_ n4_ n5_ n6_; clear hb hbox hg) | ((with_reducible refine gate_dst (N := 3) rfl ?_); refine box_event ?hg (N := 3) ?hd (cs := #[.int .i64 0, .int .i64 0]) (t := 25) ?hr ?_; (case hd => rfl); (case hg => rfl); (case hr => first | (go_simp; done) | (go_simp; rfl)); intro gb135 hg w4 hbox hb; have n0_ := Aside0.mk (blk_below (g := gb133) (o := .cells #[.int .i64 a0_0, .int .i64 a0_1] 23 (0, 0)) (by (with_reducible repeat (first | refine blk_drewN ?_ _ | refine blk_drew ?_ | refine blk_alloc ?_ _)); exact BK133.out) hb); have n1_ := Aside0.mk (blk_below (g := gb134) (o := .cells #[.int .i64 0, .int .i64 0] 25 (0, 0)) (by (with_reducible repeat (first | refine blk_drewN ?_ _ | refine blk_drew ?_ | refine blk_alloc ?_ _)); exact BK134.out) hb); have n2_ := Aside0.mk (below_step (by repeat (first | (with_reducible first | exact HB.out | apply below_alloc | apply pw_below_drewN | apply below_drew1 | refine below_set ?_ GE133.out | refine below_set ?_ GE134.out) | exact HB.out)) hb); have n3_ := Aside0.mk (hbox); have n4_ := Aside0.mk ((by rw [hg]; exact (below_size (by repeat (first | (with_reducible first | exact HB.out | apply below_alloc | apply pw_below_drewN | apply below_drew1 | refine below_set ?_ GE133.out | refine below_set ?_ GE134.out) | exact HB.out))) : w.heap.size ≤ gb135)); have n5_ := Aside0.mk ((by rw [hg]; exact (below_size (by repeat (first | (with_reducible first | exact HB.out | apply below_alloc | apply pw_below_drewN | apply below_drew1 | refine below_set ?_ GE133.out | refine below_set ?_ GE134.out) | exact HB.out))) : w.heap.size ≤ gb135)); have n6_ := Aside0.mk ((by rw [hg]; exact Nat.ne_of_lt (blk_lt (g := gb133) (o := .cells #[.int .i64 a0_0, .int .i64 a0_1] 23 (0, 0)) (by (with_reducible repeat (first | refine blk_drewN ?_ _ | refine blk_drew ?_ | refine blk_alloc ?_ _)); exact BK133.out)) : gb133 ≠ gb135)); have n7_ := Aside0.mk ((by rw [hg]; exact Nat.ne_of_gt (blk_lt (g := gb133) (o := .cells #[.int .i64 a0_0, .int .i64 a0_1] 23 (0, 0)) (by (with_reducible repeat (first | refine blk_drewN ?_ _ | refine blk_drew ?_ | refine blk_alloc ?_ _)); exact BK133.out)) : gb135 ≠ gb133)); have n8_ := Aside0.mk ((by rw [hg]; exact Nat.ne_of_lt (blk_lt (g := gb134) (o := .cells #[.int .i64 0, .int .i64 0] 25 (0, 0)) (by (with_reducible repeat (first | refine blk_drewN ?_ _ | refine blk_drew ?_ | refine blk_alloc ?_ _)); exact BK134.out)) : gb134 ≠ gb135)); have n9_ := Aside0.mk ((by rw [hg]; exact Nat.ne_of_gt (blk_lt (g := gb134) (o := .cells #[.int .i64 0, .int .i64 0] 25 (0, 0)) (by (with_reducible repeat (first | refine blk_drewN ?_ _ | refine blk_drew ?_ | refine blk_alloc ?_ _)); exact BK134.out)) : gb135 ≠ gb134)); clear BK133; clear BK134; clear HB; have BK133 := n0_; have BK134 := n1_; have HB := n2_; have BK135 := n3_; have GW135 := n4_; have GE135 := n5_; have NB133_135 := n6_; have NB135_133 := n7_; have NB134_135 := n8_; have NB135_134 := n9_; clear n0_ n1_ n2_ n3_ n4_ n5_ n6_ n7_ n8_ n9_; clear hb hbox hg; have hnb5 := NB133_134.out; have hnc5 := NB134_133.out; have hnb6 := NB133_135.out; have hnc6 := NB135_133.out; have hcz7_0 : w4.cell? ⟨gb133, 0, none⟩ = some (.int .i64 a0_0) := (blk_cell BK133.out 0).trans rfl; have hcz7_1 : w4.cell? ⟨gb133, 1, none⟩ = some (.int .i64 a0_1) := (blk_cell BK133.out 1).trans rfl; have hfz7_0 := blk_frozen BK133.out 0; have hfz7_1 := blk_frozen BK133.out 1; have hnb8 := NB135_134.out; have hnc8 := NB134_135.out; have hcz9_0 : w4.cell? ⟨gb135, 0, none⟩ = some (.int .i64 0) := (blk_cell BK135.out 0).trans rfl; have hcz9_1 : w4.cell? ⟨gb135, 1, none⟩ = some (.int .i64 0) := (blk_cell BK135.out 1).trans rfl; have hfz9_0 := blk_frozen BK135.out 0; have hfz9_1 := blk_frozen BK135.out 1; have hcz10_0 : w4.cell? ⟨gb134, 0, none⟩ = some (.int .i64 0) := (blk_cell BK134.out 0).trans rfl; have hcz10_1 : w4.cell? ⟨gb134, 1, none⟩ = some (.int .i64 0) := (blk_cell BK134.out 1).trans rfl; have hfz10_0 := blk_frozen BK134.out 0; have hfz10_1 := blk_frozen BK134.out 1))
  refine bodyPost_ret (results_cell_row rfl _ _ gb134 25 #[.int .i64 a0_0, .int .i64 a0_1] (0, 0) _ rfl (by (with_reducible repeat (first | refine blk_drewN ?_ _ | refine blk_drew ?_ | refine blk_alloc ?_ _)); refine blk_put (cs := #[.int .i64 a0_0, .int .i64 0]) ?_ 1 _ rfl; (with_reducible repeat (first | refine blk_drewN ?_ _ | refine blk_drew ?_ | refine blk_alloc ?_ _)); refine blk_put (cs := #[.int .i64 0, .int .i64 0]) ?_ 0 _ rfl; (with_reducible repeat (first | refine blk_drewN ?_ _ | refine blk_drew ?_ | refine blk_alloc ?_ _)); refine blk_far ?_ NB134_135.out _; (with_reducible repeat (first | refine blk_drewN ?_ _ | refine blk_drew ?_ | refine blk_alloc ?_ _)); refine blk_far ?_ NB134_135.out _; (with_reducible repeat (first | refine blk_drewN ?_ _ | refine blk_drew ?_ | refine blk_alloc ?_ _)); exact BK134.out) Try.underlying25 rfl (by kernel_rfl)) rfl ?_
  exact ⟨by first | rfl | (simp [errW_none, errW_some] <;> rfl) | (simp [*, errW_none, errW_some] <;> rfl), by repeat (first | (with_reducible first | exact HB.out | apply below_alloc | apply pw_below_drewN | apply below_drew1 | refine below_set ?_ GE133.out | refine below_set ?_ GE134.out | refine below_set ?_ GE135.out) | exact HB.out)⟩

/-! ### laws_toPoint: function 20 -/
def laws_toPoint.f (a0_0 : Int) (a0_1 : Int) : Option (Int × Int) := some (a0_0, a0_1)
set_option maxHeartbeats 8000000 in
set_option maxRecDepth 100000 in
theorem laws_toPoint.calls (a0_0 : Int) (a0_1 : Int) (r1 : Int) (r2 : Int) (w : World) (h : laws_toPoint.f a0_0 a0_1 = some (r1, r2)) :
    Calls Try.prog 20 #[.agg #[.int .i64 a0_0, .int .i64 a0_1]] w fun e w' => e = .returned (.agg #[.int .i64 r1, .int .i64 r2]) ∧ Below w.heap.size w w' := by
  have hu33 := Try.underlying33
  have hu29 := Try.underlying29
  have HB := Aside0.mk (Below.refl w.heap.size w)
  have H : (some (a0_0, a0_1)) = some (r1, r2) := h
  clear h
  simp only [Option.some.injEq, Prod.mk.injEq] at H
  obtain ⟨rfl, rfl⟩ := H
  go_enter Try.func20, Try.ntmps20
  go_wp2_with (first | ((with_reducible refine gate_dst (N := 1) rfl ?_); refine box_event ?hg (N := 1) ?hd (cs := #[.int .i64 a0_0, .int .i64 a0_1]) (t := 33) ?hr ?_; (case hd => rfl); (case hg => rfl); (case hr => first | (go_simp; done) | (go_simp; rfl)); intro gb136 hg w2 hbox hb; have n0_ := Aside0.mk (below_step (by repeat (first | (with_reducible first | exact HB.out | apply below_alloc | apply pw_below_drewN | apply below_drew1) | exact HB.out)) hb); have n1_ := Aside0.mk (hbox); have n2_ := Aside0.mk ((by rw [hg]; exact (below_size (by repeat (first | (with_reducible first | exact HB.out | apply below_alloc | apply pw_below_drewN | apply below_drew1) | exact HB.out))) : w.heap.size ≤ gb136)); have n3_ := Aside0.mk ((by rw [hg]; exact (below_size (by repeat (first | (with_reducible first | exact HB.out | apply below_alloc | apply pw_below_drewN | apply below_drew1) | exact HB.out))) : w.heap.size ≤ gb136)); clear HB; have HB := n0_; have BK136 := n1_; have GW136 := n2_; have GE136 := n3_; clear n0_ n1_ n2_ n3_; clear hb hbox hg) | ((with_reducible refine gate_dst (N := 2) rfl ?_); refine box_event ?hg (N := 2) ?hd (cs := #[.int .i64 0, .int .i64 0]) (t := 29) ?hr ?_; (case hd => rfl); (case hg => rfl); (case hr => first | (go_simp; done) | (go_simp; rfl)); intro gb137 hg w3 hbox hb; have n0_ := Aside0.mk (blk_below (g := gb136) (o := .cells #[.int .i64 a0_0, .int .i64 a0_1] 33 (0, 0)) (by (with_reducible repeat (first | refine blk_drewN ?_ _ | refine blk_drew ?_ | refine blk_alloc ?_ _)); exact BK136.out) hb); have n1_ := Aside0.mk (below_step (by repeat (first | (with_reducible first | exact HB.out | apply below_alloc | apply pw_below_drewN | apply below_drew1 | refine below_set ?_ GE136.out) | exact HB.out)) hb); have n2_ := Aside0.mk (hbox); have n3_ := Aside0.mk ((by rw [hg]; exact (below_size (by repeat (first | (with_reducible first | exact HB.out | apply below_alloc | apply pw_below_drewN | apply below_drew1 | refine below_set ?_ GE136.out) | exact HB.out))) : w.heap.size ≤ gb137)); have n4_ := Aside0.mk ((by rw [hg]; exact (below_size (by repeat (first | (with_reducible first | exact HB.out | apply below_alloc | apply pw_below_drewN | apply below_drew1 | refine below_set ?_ GE136.out) | exact HB.out))) : w.heap.size ≤ gb137)); have n5_ := Aside0.mk ((by rw [hg]; exact Nat.ne_of_lt (blk_lt (g := gb136) (o := .cells #[.int .i64 a0_0, .int .i64 a0_1] 33 (0, 0)) (by (with_reducible repeat (first | refine blk_drewN ?_ _ | refine blk_drew ?_ | refine blk_alloc ?_ _)); exact BK136.out)) : gb136 ≠ gb137)); have n6_ := Aside0.mk ((by rw [hg]; exact Nat.ne_of_gt (blk_lt (g := gb136) (o := .cells #[.int .i64 a0_0, .int .i64 a0_1] 33 (0, 0)) (by (with_reducible repeat (first | refine blk_drewN ?_ _ | refine blk_drew ?_ | refine blk_alloc ?_ _)); exact BK136.out)) : gb137 ≠ gb136)); clear BK136; clear HB; have BK136 := n0_; have HB := n1_; have BK137 := n2_; have GW137 := n3_; have GE137 := n4_; have NB136_137 := n5_; have NB137_136 := n6_; clear n0_ n1_ n2_ n3_ n4_ n5_ n6_; clear hb hbox hg) | ((with_reducible refine gate_dst (N := 3) rfl ?_); refine box_event ?hg (N := 3) ?hd (cs := #[.int .i64 0, .int .i64 0]) (t := 29) ?hr ?_; (case hd => rfl); (case hg => rfl); (case hr => first | (go_simp; done) | (go_simp; rfl)); intro gb138 hg w4 hbox hb; have n0_ := Aside0.mk (blk_below (g := gb136) (o := .cells #[.int .i64 a0_0, .int .i64 a0_1] 33 (0, 0)) (by (with_reducible repeat (first | refine blk_drewN ?_ _ | refine blk_drew ?_ | refine blk_alloc ?_ _)); exact BK136.out) hb); have n1_ := Aside0.mk (blk_below (g := gb137) (o := .cells #[.int .i64 0, .int .i64 0] 29 (0, 0)) (by (with_reducible repeat (first | refine blk_drewN ?_ _ | refine blk_drew ?_ | refine blk_alloc ?_ _)); exact BK137.out) hb); have n2_ := Aside0.mk (below_step (by repeat (first | (with_reducible first | exact HB.out | apply below_alloc | apply pw_below_drewN | apply below_drew1 | refine below_set ?_ GE136.out | refine below_set ?_ GE137.out) | exact HB.out)) hb); have n3_ := Aside0.mk (hbox); have n4_ := Aside0.mk ((by rw [hg]; exact (below_size (by repeat (first | (with_reducible first | exact HB.out | apply below_alloc | apply pw_below_drewN | apply below_drew1 | refine below_set ?_ GE136.out | refine below_set ?_ GE137.out) | exact HB.out))) : w.heap.size ≤ gb138)); have n5_ := Aside0.mk ((by rw [hg]; exact (below_size (by repeat (first | (with_reducible first | exact HB.out | apply below_alloc | apply pw_below_drewN | apply below_drew1 | refine below_set ?_ GE136.out | refine below_set ?_ GE137.out) | exact HB.out))) : w.heap.size ≤ gb138)); have n6_ := Aside0.mk ((by rw [hg]; exact Nat.ne_of_lt (blk_lt (g := gb136) (o := .cells #[.int .i64 a0_0, .int .i64 a0_1] 33 (0, 0)) (by (with_reducible repeat (first | refine blk_drewN ?_ _ | refine blk_drew ?_ | refine blk_alloc ?_ _)); exact BK136.out)) : gb136 ≠ gb138)); have n7_ := Aside0.mk ((by rw [hg]; exact Nat.ne_of_gt (blk_lt (g := gb136) (o := .cells #[.int .i64 a0_0, .int .i64 a0_1] 33 (0, 0)) (by (with_reducible repeat (first | refine blk_drewN ?_ _ | refine blk_drew ?_ | refine blk_alloc ?_ _)); exact BK136.out)) : gb138 ≠ gb136)); have n8_ := Aside0.mk ((by rw [hg]; exact Nat.ne_of_lt (blk_lt (g := gb137) (o := .cells #[.int .i64 0, .int .i64 0] 29 (0, 0)) (by (with_reducible repeat (first | refine blk_drewN ?_ _ | refine blk_drew ?_ | refine blk_alloc ?_ _)); exact BK137.out)) : gb137 ≠ gb138)); have n9_ := Aside0.mk ((by rw [hg]; exact Nat.ne_of_gt (blk_lt (g := gb137) (o := .cells #[.int .i64 0, .int .i64 0] 29 (0, 0)) (by (with_reducible repeat (first | refine blk_drewN ?_ _ | refine blk_drew ?_ | refine blk_alloc ?_ _)); exact BK137.out)) : gb138 ≠ gb137)); clear BK136; clear BK137; clear HB; have BK136 := n0_; have BK137 := n1_; have HB := n2_; have BK138 := n3_; have GW138 := n4_; have GE138 := n5_; have NB136_138 := n6_; have NB138_136 := n7_; have NB137_138 := n8_; have NB138_137 := n9_; clear n0_ n1_ n2_ n3_ n4_ n5_ n6_ n7_ n8_ n9_; clear hb hbox hg; have hnb5 := NB136_137.out; have hnc5 := NB137_136.out; have hnb6 := NB136_138.out; have hnc6 := NB138_136.out; have hcz7_0 : w4.cell? ⟨gb136, 0, none⟩ = some (.int .i64 a0_0) := (blk_cell BK136.out 0).trans rfl; have hcz7_1 : w4.cell? ⟨gb136, 1, none⟩ = some (.int .i64 a0_1) := (blk_cell BK136.out 1).trans rfl; have hfz7_0 := blk_frozen BK136.out 0; have hfz7_1 := blk_frozen BK136.out 1; have hnb8 := NB138_137.out; have hnc8 := NB137_138.out; have hcz9_0 : w4.cell? ⟨gb138, 0, none⟩ = some (.int .i64 0) := (blk_cell BK138.out 0).trans rfl; have hcz9_1 : w4.cell? ⟨gb138, 1, none⟩ = some (.int .i64 0) := (blk_cell BK138.out 1).trans rfl; have hfz9_0 := blk_frozen BK138.out 0; have hfz9_1 := blk_frozen BK138.out 1; have hcz10_0 : w4.cell? ⟨gb137, 0, none⟩ = some (.int .i64 0) := (blk_cell BK137.out 0).trans rfl; have hcz10_1 : w4.cell? ⟨gb137, 1, none⟩ = some (.int .i64 0) := (blk_cell BK137.out 1).trans rfl; have hfz10_0 := blk_frozen BK137.out 0; have hfz10_1 := blk_frozen BK137.out 1))
  refine bodyPost_ret (results_cell_row rfl _ _ gb137 29 #[.int .i64 a0_0, .int .i64 a0_1] (0, 0) _ rfl (by (with_reducible repeat (first | refine blk_drewN ?_ _ | refine blk_drew ?_ | refine blk_alloc ?_ _)); refine blk_put (cs := #[.int .i64 a0_0, .int .i64 0]) ?_ 1 _ rfl; (with_reducible repeat (first | refine blk_drewN ?_ _ | refine blk_drew ?_ | refine blk_alloc ?_ _)); refine blk_put (cs := #[.int .i64 0, .int .i64 0]) ?_ 0 _ rfl; (with_reducible repeat (first | refine blk_drewN ?_ _ | refine blk_drew ?_ | refine blk_alloc ?_ _)); refine blk_far ?_ NB137_138.out _; (with_reducible repeat (first | refine blk_drewN ?_ _ | refine blk_drew ?_ | refine blk_alloc ?_ _)); refine blk_far ?_ NB137_138.out _; (with_reducible repeat (first | refine blk_drewN ?_ _ | refine blk_drew ?_ | refine blk_alloc ?_ _)); exact BK137.out) Try.underlying29 rfl (by kernel_rfl)) rfl ?_
  exact ⟨by first | rfl | (simp [errW_none, errW_some] <;> rfl) | (simp [*, errW_none, errW_some] <;> rfl), by repeat (first | (with_reducible first | exact HB.out | apply below_alloc | apply pw_below_drewN | apply below_drew1 | refine below_set ?_ GE136.out | refine below_set ?_ GE137.out | refine below_set ?_ GE138.out) | exact HB.out)⟩

/-! ### spec_OrderOf: function 34 -/
def spec_OrderOf.l0 : Nat → Int → Int → Int → Int → Int → Int → Int → Option (Int × Bool)
  | 0, _, _, _, _, _, _, _ => none
  | k + 1, n, p, d, ax, ay, x, y => if (!(x == 0) || (!(y == 1))) = true then ((spec_l5Add.f k p d x y ax ay).bind fun b => (spec_OrderOf.l0 k (wrap64 (n + 1)) p d ax ay b.1 b.2)) else (some (n, true))
def spec_OrderOf.f (k : Nat) (p : Int) (d : Int) (ax : Int) (ay : Int) : Option (Int × Bool) := (spec_l5Good.f k p d ax ay).bind fun t => (if t = true then (spec_OrderOf.l0 k 1 p d ax ay ax ay) else (some (0, false)))
theorem spec_OrderOf.mono_l : ∀ k, (∀ y0 y1 y2 y3 y4 y5 y6, LeO (spec_OrderOf.l0 k y0 y1 y2 y3 y4 y5 y6) (spec_OrderOf.l0 (k + 1) y0 y1 y2 y3 y4 y5 y6))
  | 0 => fun _ _ _ _ _ _ _ r h => by simp [spec_OrderOf.l0] at h
  | k + 1 => by
    have ih0 := spec_OrderOf.mono_l k
    intro y0 y1 y2 y3 y4 y5 y6
    unfold spec_OrderOf.l0
    refine LeO.ite ?_ (LeO.refl _)
    exact LeO.bind (spec_l5Add.mono _ _ _ _ _ _ _) (fun _ => ih0 _ _ _ _ _ _ _)
theorem spec_OrderOf.mono : ∀ a0 a1 a2 a3 k, LeO (spec_OrderOf.f k a0 a1 a2 a3) (spec_OrderOf.f (k + 1) a0 a1 a2 a3) := by
  intro a0 a1 a2 a3 k
  unfold spec_OrderOf.f
  exact LeO.bind (spec_l5Good.mono _ _ _ _ _) (fun _ => LeO.ite (spec_OrderOf.mono_l k _ _ _ _ _ _ _) (LeO.refl _))
set_option maxHeartbeats 8000000 in
set_option maxRecDepth 100000 in
theorem spec_OrderOf.calls (k : Nat) (p : Int) (d : Int) (ax : Int) (ay : Int) (r1 : Int) (r2 : Bool) (w : World) (h : spec_OrderOf.f k p d ax ay = some (r1, r2)) :
    Calls Try.prog 34 #[.agg #[.int .i64 p, .int .i64 d], .agg #[.int .i64 ax, .int .i64 ay]] w fun e w' => e = .returned (.tuple #[.int .i64 r1, .bool r2]) ∧ Below w.heap.size w w' := by
  unfold spec_OrderOf.f at h
  obtain ⟨t, ht, h⟩ := Option.bind_eq_some_iff.mp h
  have HT := Aside0.mk ht
  clear ht
  have hb0 : Below w.heap.size w ((w.alloc (.cells #[.int .i64 p, .int .i64 d] 25)).alloc (.cells #[.int .i64 ax, .int .i64 ay] 29)) := by
    refine Below.alloc ?_ (below_size (Below.alloc (Below.refl _ _) (Nat.le_refl _) _)) _
    exact Below.alloc (Below.refl _ _) (Nat.le_refl _) _
  have hg2 : ((w.alloc (.cells #[.int .i64 p, .int .i64 d] 25)).alloc (.cells #[.int .i64 ax, .int .i64 ay] 29)).heap[w.heap.size]? = some (.cells #[.int .i64 p, .int .i64 d] 25 (0, 0)) := blk_alloc (blk_new _ _) _
  have hg3 : ((w.alloc (.cells #[.int .i64 p, .int .i64 d] 25)).alloc (.cells #[.int .i64 ax, .int .i64 ay] 29)).heap[w.heap.size + 1]? = some (.cells #[.int .i64 ax, .int .i64 ay] 29 (0, 0)) := by
    have e := blk_new (w.alloc (.cells #[.int .i64 p, .int .i64 d] 25)) (.cells #[.int .i64 ax, .int .i64 ay] 29)
    have es : (w.alloc (.cells #[.int .i64 p, .int .i64 d] 25)).heap.size = w.heap.size + 1 := by show (w.heap.push _).size = _; simp
    rw [es] at e
    exact e
  have HB0 := Aside0.mk hb0
  have HG2 := Aside0.mk hg2
  have HG3 := Aside0.mk hg3
  clear hb0 hg2 hg3
  cases t with
  | true =>
    rw [if_pos rfl] at h
    have H := Aside0.mk h
    clear h
    go_enter Try.func34, Try.ntmps34
    go_wp2_with fail
    refine (spec_l5Good.calls k p d ax ay true _ HT.out).mono ?_
    rintro e w1 ⟨rfl, hb⟩
    have HB1 := Aside0.mk (below_step HB0.out hb)
    have HC := Aside0.mk (blk_below HG2.out hb)
    have HA := Aside0.mk (blk_below HG3.out hb)
    have g3lt : w.heap.size + 1 < w1.heap.size := blk_lt HA.out
    obtain ⟨g, hg⟩ : ∃ g, w.heap.size = g := ⟨_, rfl⟩
    rw [hg] at HB1 HC HA g3lt ⊢
    have c1 : w1.cell? ⟨g, 0, none⟩ = some (.int .i64 p) := (blk_cell HC.out 0).trans rfl
    have c2 : w1.cell? ⟨g, 1, none⟩ = some (.int .i64 d) := (blk_cell HC.out 1).trans rfl
    have c3 : w1.cell? ⟨g + 1, 0, none⟩ = some (.int .i64 ax) := (blk_cell HA.out 0).trans rfl
    have c4 : w1.cell? ⟨g + 1, 1, none⟩ = some (.int .i64 ay) := (blk_cell HA.out 1).trans rfl
    clear hb HB0 HG2 HG3
    go_wp2_with fail
    have HB2 := Aside0.mk (Below.alloc HB1.out (by omega : g ≤ w1.heap.size) (.cells #[.int .i64 ax, .int .i64 ay] 29))
    go_loopg [6, 7] k (fun kq v6 v7 w' => ∃ (n : Int) (gb : Nat) (x y : Int), v6 = .int .i64 n ∧ v7 = .pointer (some ⟨gb, 0, none⟩) ∧ Aside0 (spec_OrderOf.l0 kq n p d ax ay x y = some (r1, r2)) ∧ Aside0 (kq ≤ k) ∧ Aside0 (w'.heap[g]? = some (.cells #[.int .i64 p, .int .i64 d] 25 (0, 0))) ∧ Aside0 (w'.heap[g + 1]? = some (.cells #[.int .i64 ax, .int .i64 ay] 29 (0, 0))) ∧ Aside0 (w'.heap[gb]? = some (.cells #[.int .i64 x, .int .i64 y] 29 (0, 0))) ∧ Aside0 (g + 1 < gb) ∧ Aside0 (Below g w w'))
    case atStart => exact ⟨1, w1.heap.size, ax, ay, rfl, rfl, H, ⟨Nat.le_refl _⟩, ⟨blk_alloc HC.out _⟩, ⟨blk_alloc HA.out _⟩, ⟨blk_new _ _⟩, ⟨g3lt⟩, HB2⟩
    case round =>
      clear H HB1 HB2 HC HA c1 c2 c3 c4 g3lt
      obtain ⟨n, gb, x, y, rfl, rfl, HA, HK1, HC2, HA2, HX, HGB, HB⟩ := hrel
      cases gk with
      | zero => exact absurd HA.out (by simp [spec_OrderOf.l0])
      | succ k1 =>
        have H := HA.out
        clear HA
        simp only [spec_OrderOf.l0] at H
        have c1 : wr.cell? ⟨g, 0, none⟩ = some (.int .i64 p) := (blk_cell HC2.out 0).trans rfl
        have c2 : wr.cell? ⟨g, 1, none⟩ = some (.int .i64 d) := (blk_cell HC2.out 1).trans rfl
        have c3 : wr.cell? ⟨g + 1, 0, none⟩ = some (.int .i64 ax) := (blk_cell HA2.out 0).trans rfl
        have c4 : wr.cell? ⟨g + 1, 1, none⟩ = some (.int .i64 ay) := (blk_cell HA2.out 1).trans rfl
        have c5 : wr.cell? ⟨gb, 0, none⟩ = some (.int .i64 x) := (blk_cell HX.out 0).trans rfl
        have c6 : wr.cell? ⟨gb, 1, none⟩ = some (.int .i64 y) := (blk_cell HX.out 1).trans rfl
        have l1 := blk_lt HA2.out
        have l2 := blk_lt HC2.out
        have l3 := blk_lt HX.out
        by_cases c16 : (!(x == 0) || (!(y == 1))) = true
        · rw [if_pos c16] at H
          obtain ⟨⟨u, v⟩, hadd, H⟩ := Option.bind_eq_some_iff.mp H
          have HAD := Aside0.mk hadd
          have H' := Aside0.mk H
          clear H hadd
          rcases Classical.em (x = 0) with rfl | hx
          · have hy : ¬ (y = 1) := by simpa using c16
            clear c16
            go_wp2_with fail
            with_reducible refine Calls.mono (spec_l5Add.calls k1 p d _ y ax ay u v _ HAD.out) ?_
            rintro e w2 ⟨rfl, hb⟩
            have HN := Aside0.mk (blk_below (blk_new _ _) hb)
            have HC3 := Aside0.mk (blk_below (blk_alloc HC2.out _) hb)
            have HA3 := Aside0.mk (blk_below (blk_alloc HA2.out _) hb)
            have HB3 := Aside0.mk (below_then (Below.alloc HB.out (Nat.le_of_lt l2) (.cells #[.int .i64 _, .int .i64 y] 29)) (by show g ≤ (wr.heap.push _).size; simp; omega) hb)
            have n1 : w2.cell? ⟨wr.heap.size, 0, none⟩ = some _ := (blk_cell HN.out 0).trans rfl
            have n2 : w2.cell? ⟨wr.heap.size, 1, none⟩ = some _ := (blk_cell HN.out 1).trans rfl
            have f1 := blk_frozen HN.out 0
            have f2 := blk_frozen HN.out 1
            have l4 := blk_lt HN.out
            clear hb
            go_wp2_with fail
            go_roundg k1
            case measure => have := HK1.out; omega
            case rel =>
              exact ⟨wrap64 (n + 1), wr.heap.size, u, v, rfl, rfl, H', ⟨by have := HK1.out; omega⟩, ⟨blk_far (blk_far HC3.out (p := ⟨wr.heap.size, 0, none⟩) (Nat.ne_of_lt l2) _) (p := ⟨wr.heap.size, 1, none⟩) (Nat.ne_of_lt l2) _⟩, ⟨blk_far (blk_far HA3.out (p := ⟨wr.heap.size, 0, none⟩) (Nat.ne_of_lt l1) _) (p := ⟨wr.heap.size, 1, none⟩) (Nat.ne_of_lt l1) _⟩, ⟨blk_put (blk_put HN.out 0 _ rfl) 1 _ rfl⟩, ⟨l1⟩, ⟨(HB3.out.setCell (p := ⟨wr.heap.size, 0, none⟩) (Nat.le_of_lt l2) _).setCell (p := ⟨wr.heap.size, 1, none⟩) (Nat.le_of_lt l2) _⟩⟩
          · clear c16
            go_wp2_with fail
            with_reducible refine Calls.mono (spec_l5Add.calls k1 p d _ y ax ay u v _ HAD.out) ?_
            rintro e w2 ⟨rfl, hb⟩
            have HN := Aside0.mk (blk_below (blk_new _ _) hb)
            have HC3 := Aside0.mk (blk_below (blk_alloc HC2.out _) hb)
            have HA3 := Aside0.mk (blk_below (blk_alloc HA2.out _) hb)
            have HB3 := Aside0.mk (below_then (Below.alloc HB.out (Nat.le_of_lt l2) (.cells #[.int .i64 _, .int .i64 y] 29)) (by show g ≤ (wr.heap.push _).size; simp; omega) hb)
            have n1 : w2.cell? ⟨wr.heap.size, 0, none⟩ = some _ := (blk_cell HN.out 0).trans rfl
            have n2 : w2.cell? ⟨wr.heap.size, 1, none⟩ = some _ := (blk_cell HN.out 1).trans rfl
            have f1 := blk_frozen HN.out 0
            have f2 := blk_frozen HN.out 1
            have l4 := blk_lt HN.out
            clear hb
            go_wp2_with fail
            go_roundg k1
            case measure => have := HK1.out; omega
            case rel =>
              exact ⟨wrap64 (n + 1), wr.heap.size, u, v, rfl, rfl, H', ⟨by have := HK1.out; omega⟩, ⟨blk_far (blk_far HC3.out (p := ⟨wr.heap.size, 0, none⟩) (Nat.ne_of_lt l2) _) (p := ⟨wr.heap.size, 1, none⟩) (Nat.ne_of_lt l2) _⟩, ⟨blk_far (blk_far HA3.out (p := ⟨wr.heap.size, 0, none⟩) (Nat.ne_of_lt l1) _) (p := ⟨wr.heap.size, 1, none⟩) (Nat.ne_of_lt l1) _⟩, ⟨blk_put (blk_put HN.out 0 _ rfl) 1 _ rfl⟩, ⟨l1⟩, ⟨(HB3.out.setCell (p := ⟨wr.heap.size, 0, none⟩) (Nat.le_of_lt l2) _).setCell (p := ⟨wr.heap.size, 1, none⟩) (Nat.le_of_lt l2) _⟩⟩
        · rw [if_neg c16] at H
          obtain ⟨rfl, rfl⟩ : x = 0 ∧ y = 1 := by simpa using c16
          clear c16
          obtain ⟨rfl, rfl⟩ := Prod.mk.inj (Option.some.inj H)
          clear H
          go_wp2
          go_ret2
          exact ⟨rfl, by rw [hg]; exact HB.out⟩
  | false =>
    rw [if_neg (by simp)] at h
    obtain ⟨rfl, rfl⟩ := Prod.mk.inj (Option.some.inj h)
    clear h
    go_enter Try.func34, Try.ntmps34
    go_wp2_with fail
    refine (spec_l5Good.calls k p d ax ay false _ HT.out).mono ?_
    rintro e w1 ⟨rfl, hb⟩
    have HB1 := Aside0.mk (below_step HB0.out hb)
    clear hb
    go_wp2_with fail
    go_ret2
    exact ⟨rfl, HB1.out⟩


end Go.Proofs.Ytghikmnjccgchaa.SFnExactOrderOf
