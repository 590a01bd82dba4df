-- Written by sprint.py, a program of this session's, over the kit's print. Not trusted: Lean checks it.
import Derived.Test.YtmajmplhojlhbaaDoorSFnExactOfHexx0
import Derived.Test.YtmajmplhojlhbaaDoorSFnExactOfHexx2
namespace Go.Proofs.YtmajmplhojlhbaaDoor.SFnExactOfHex
open Go.RowKit Go.Proofs.YtmajmplhojlhbaaDoorW.PrintWords Go.Proofs.YtmajmplhojlhbaaDoorW.PrintLast Go.Proofs.YtmajmplhojlhbaaDoorW.PrintMore
attribute [local go_sem] max2_int min2_int max_two min_two max_three min_three max_four min_four   -- for this text's walks alone
set_option linter.unusedVariables false
set_option linter.unusedSimpArgs false

/-! ### spec_OfHex: function 8 -/
mutual
def spec_OfHex.j0 : Nat → ByteArray → Bool → Option (ByteArray × Bool)
  | 0, _, _ => none
  | k + 1, x0, x17 => if x17 = true then (some ((⟨#[]⟩ : ByteArray), false)) else (spec_OfHex.l0 k x0 ([] : List Int) 0)
def spec_OfHex.l0 : Nat → ByteArray → List Int → Int → Option (ByteArray × Bool)
  | 0, _, _, _ => none
  | k + 1, x0, x4, x5 => if x5 < (x0.size : Int) then (if 0 ≤ x5 then (if x5 ≤ (wrap64 (x5 + 2)) then (if (wrap64 (x5 + 2)) ≤ (x0.size : Int) then (if (x0.extract (x5 : Int).toNat ((wrap64 (x5 + 2)) : Int).toNat).size ≤ 9223372036854775807 then ((some (numsB (x0.extract (x5 : Int).toNat ((wrap64 (x5 + 2)) : Int).toNat) : List Int)).bind fun y112 => (spec_OfHex.l1 k x0 x4 x5 0 y112 (y112.length : Int) 0)) else (none)) else (none)) else (none)) else (none)) else (some (strOfNums x4, true))
def spec_OfHex.l1 : Nat → ByteArray → List Int → Int → Int → List Int → Int → Int → Option (ByteArray × Bool)
  | 0, _, _, _, _, _, _, _ => none
  | k + 1, x0, x4, x5, x6, x29, x30, x31 => if x31 < x30 then (if 0 ≤ x31 then (if x31 < (x29.length : Int) then (if (rd x29 x31) ≥ 48 then (spec_OfHex.j3 k x0 x4 x5 (wrap64 (x6 * 16)) (rd x29 x31) x29 x30 x31 (decide ((rd x29 x31) ≤ 57))) else (spec_OfHex.j3 k x0 x4 x5 (wrap64 (x6 * 16)) (rd x29 x31) x29 x30 x31 false)) else (none)) else (none)) else (if x4.length < 140737488355328 then (spec_OfHex.l0 k x0 (x4 ++ [(x6) % 256]) (wrap64 (x5 + 2))) else (none))
def spec_OfHex.j3 : Nat → ByteArray → List Int → Int → Int → Int → List Int → Int → Int → Bool → Option (ByteArray × Bool)
  | 0, _, _, _, _, _, _, _, _, _ => none
  | k + 1, x0, x4, x5, x6, x8, x29, x30, x31, x37 => if x37 = true then (spec_OfHex.l1 k x0 x4 x5 (wrap64 (x6 + ((x8 - 48) % 256))) x29 x30 (wrap64 (x31 + 1))) else (if x8 ≥ 97 then (if x8 ≤ 102 then (spec_OfHex.l1 k x0 x4 x5 (wrap64 (x6 + (((x8 - 97) % 256) + 10))) x29 x30 (wrap64 (x31 + 1))) else (some ((⟨#[]⟩ : ByteArray), false))) else (some ((⟨#[]⟩ : ByteArray), false)))
end
def spec_OfHex.f (k : Nat) (a0 : ByteArray) : Option (ByteArray × Bool) := if (a0.size : Int) > 1200 then (spec_OfHex.j0 k a0 true) else (spec_OfHex.j0 k a0 (((a0.size : Int) % 2) == 1))
theorem spec_OfHex.mono_l : ∀ k, (∀ y0 y1, LeO (spec_OfHex.j0 k y0 y1) (spec_OfHex.j0 (k + 1) y0 y1)) ∧ (∀ y0 y1 y2, LeO (spec_OfHex.l0 k y0 y1 y2) (spec_OfHex.l0 (k + 1) y0 y1 y2)) ∧ (∀ y0 y1 y2 y3 y4 y5 y6, LeO (spec_OfHex.l1 k y0 y1 y2 y3 y4 y5 y6) (spec_OfHex.l1 (k + 1) y0 y1 y2 y3 y4 y5 y6)) ∧ (∀ y0 y1 y2 y3 y4 y5 y6 y7 y8, LeO (spec_OfHex.j3 k y0 y1 y2 y3 y4 y5 y6 y7 y8) (spec_OfHex.j3 (k + 1) y0 y1 y2 y3 y4 y5 y6 y7 y8))
  | 0 => ⟨fun _ _ r h => by simp [spec_OfHex.j0] at h, fun _ _ _ r h => by simp [spec_OfHex.l0] at h, fun _ _ _ _ _ _ _ r h => by simp [spec_OfHex.l1] at h, fun _ _ _ _ _ _ _ _ _ r h => by simp [spec_OfHex.j3] at h⟩
  | k + 1 => by
    obtain ⟨ih0, ih1, ih2, ih3⟩ := spec_OfHex.mono_l k
    refine ⟨?_, ?_, ?_, ?_⟩
    · intro y0 y1
      unfold spec_OfHex.j0
      repeat' first
      | (with_reducible exact ih0 _ _)
      | (with_reducible exact ih1 _ _ _)
      | (with_reducible exact ih2 _ _ _ _ _ _ _)
      | (with_reducible exact ih3 _ _ _ _ _ _ _ _ _)
      | (with_reducible exact LeO.refl _)
      | (with_reducible exact LeO.none _)
      | (with_reducible refine LeO.ite ?_ ?_)
      | (with_reducible refine LeO.bind ?_ (fun _ => ?_))
      | exact ih0 _ _
      | exact ih1 _ _ _
      | exact ih2 _ _ _ _ _ _ _
      | exact ih3 _ _ _ _ _ _ _ _ _
      | exact LeO.none _
      | refine LeO.ite ?_ ?_
      | refine LeO.bind ?_ (fun _ => ?_)
    · intro y0 y1 y2
      unfold spec_OfHex.l0
      repeat' first
      | (with_reducible exact ih0 _ _)
      | (with_reducible exact ih1 _ _ _)
      | (with_reducible exact ih2 _ _ _ _ _ _ _)
      | (with_reducible exact ih3 _ _ _ _ _ _ _ _ _)
      | (with_reducible exact LeO.refl _)
      | (with_reducible exact LeO.none _)
      | (with_reducible refine LeO.ite ?_ ?_)
      | (with_reducible refine LeO.bind ?_ (fun _ => ?_))
      | exact ih0 _ _
      | exact ih1 _ _ _
      | exact ih2 _ _ _ _ _ _ _
      | exact ih3 _ _ _ _ _ _ _ _ _
      | exact LeO.none _
      | refine LeO.ite ?_ ?_
      | refine LeO.bind ?_ (fun _ => ?_)
    · intro y0 y1 y2 y3 y4 y5 y6
      unfold spec_OfHex.l1
      repeat' first
      | (with_reducible exact ih0 _ _)
      | (with_reducible exact ih1 _ _ _)
      | (with_reducible exact ih2 _ _ _ _ _ _ _)
      | (with_reducible exact ih3 _ _ _ _ _ _ _ _ _)
      | (with_reducible exact LeO.refl _)
      | (with_reducible exact LeO.none _)
      | (with_reducible refine LeO.ite ?_ ?_)
      | (with_reducible refine LeO.bind ?_ (fun _ => ?_))
      | exact ih0 _ _
      | exact ih1 _ _ _
      | exact ih2 _ _ _ _ _ _ _
      | exact ih3 _ _ _ _ _ _ _ _ _
      | exact LeO.none _
      | refine LeO.ite ?_ ?_
      | refine LeO.bind ?_ (fun _ => ?_)
    · intro y0 y1 y2 y3 y4 y5 y6 y7 y8
      unfold spec_OfHex.j3
      repeat' first
      | (with_reducible exact ih0 _ _)
      | (with_reducible exact ih1 _ _ _)
      | (with_reducible exact ih2 _ _ _ _ _ _ _)
      | (with_reducible exact ih3 _ _ _ _ _ _ _ _ _)
      | (with_reducible exact LeO.refl _)
      | (with_reducible exact LeO.none _)
      | (with_reducible refine LeO.ite ?_ ?_)
      | (with_reducible refine LeO.bind ?_ (fun _ => ?_))
      | exact ih0 _ _
      | exact ih1 _ _ _
      | exact ih2 _ _ _ _ _ _ _
      | exact ih3 _ _ _ _ _ _ _ _ _
      | exact LeO.none _
      | refine LeO.ite ?_ ?_
      | refine LeO.bind ?_ (fun _ => ?_)
theorem spec_OfHex.mono : ∀ a0 k, LeO (spec_OfHex.f k a0) (spec_OfHex.f (k + 1) a0) := by
  intro a0 k
  obtain ⟨ih0, ih1, ih2, ih3⟩ := spec_OfHex.mono_l k
  unfold spec_OfHex.f
  repeat' first
      | (with_reducible exact ih0 _ _)
      | (with_reducible exact ih1 _ _ _)
      | (with_reducible exact ih2 _ _ _ _ _ _ _)
      | (with_reducible exact ih3 _ _ _ _ _ _ _ _ _)
      | (with_reducible exact LeO.refl _)
      | (with_reducible exact LeO.none _)
      | (with_reducible refine LeO.ite ?_ ?_)
      | (with_reducible refine LeO.bind ?_ (fun _ => ?_))
      | exact ih0 _ _
      | exact ih1 _ _ _
      | exact ih2 _ _ _ _ _ _ _
      | exact ih3 _ _ _ _ _ _ _ _ _
      | exact LeO.none _
      | refine LeO.ite ?_ ?_
      | refine LeO.bind ?_ (fun _ => ?_)
set_option maxHeartbeats 8000000 in
set_option maxRecDepth 100000 in
theorem spec_OfHex.calls (k : Nat) (a0 : ByteArray) (r1 : ByteArray) (r2 : Bool) (w : World) (h : spec_OfHex.f k a0 = some (r1, r2)) :
    Calls Tryd.prog 8 #[.string a0] w fun e w' => e = .returned (.tuple #[.string r1, .bool r2]) ∧ Below w.heap.size w w' := by
  have HB := Aside0.mk (Below.refl w.heap.size w)
  have H : (if (a0.size : Int) > 1200 then (spec_OfHex.j0 k a0 true) else (spec_OfHex.j0 k a0 (((a0.size : Int) % 2) == 1))) = some (r1, r2) := h
  clear h
  have HC2 := Aside0.mk H
  clear H
  go_enter Tryd.func8, Tryd.ntmps8
  go_upto_region 1 with (fail)
  go_cut [17] (fun v17 wc => ∃ (kq : Nat) (x17_1 : Bool), v17 = .bool x17_1 ∧ Aside0 (spec_OfHex.j0 kq a0 x17_1 = some (r1, r2)) ∧ Aside0 (kq ≤ k) ∧ Aside0 (Below w.heap.size w wc))
  case first =>
    have H := HC2.out
    clear HC2
    by_cases c3 : (a0.size : Int) > 1200
    · rw [if_pos c3] at H
      have c3b0 : decide (1200 < (a0.size : Int)) = true := decide_eq_true c3
      have c3b1 : decide (1200 < a0.size) = true := decide_eq_true (by omega)
      clear c3
      (first | rw [c3b0] | (simp only [i64_w, i32_w]; rw [c3b0]) | skip)
      have H' := Aside0.mk H
      clear H
      go_wp2
      go_meet
      case rel => exact ⟨_, (true), (by first | rfl | (simp; done) | (simp [*]; done)), H', ⟨by first | omega | exact Nat.le_refl _⟩, ⟨by repeat (first | (with_reducible first | exact HB.out | apply below_alloc | apply pw_below_drewN | apply below_drew1) | exact HB.out)⟩⟩
    · rw [if_neg c3] at H
      have c3b0 : decide (1200 < (a0.size : Int)) = false := decide_eq_false c3
      have c3b1 : decide (1200 < a0.size) = false := decide_eq_false (by omega)
      clear c3
      (first | rw [c3b0] | (simp only [i64_w, i32_w]; rw [c3b0]) | skip)
      have H' := Aside0.mk H
      clear H
      go_wp2
      go_meet
      case rel => exact ⟨_, ((((a0.size : Int) % 2) == 1)), (by first | rfl | (simp; done) | (simp [*]; done)), H', ⟨by first | omega | exact Nat.le_refl _⟩, ⟨by repeat (first | (with_reducible first | exact HB.out | apply below_alloc | apply pw_below_drewN | apply below_drew1) | exact HB.out)⟩⟩
  case rest =>
    clear HC2
    try clear p2
    try clear c3
    try clear c3b0
    try clear c3b1
    obtain ⟨kq, x17_1, rfl, HA, HJ1, HB⟩ := hcut
    cases kq with
    | zero => exact absurd HA.out (by simp [spec_OfHex.j0])
    | succ kj1 =>
      have H := HA.out
      clear HA
      simp only [spec_OfHex.j0] at H
      by_cases c4 : x17_1 = true
      · subst c4
        have H1 : (some ((⟨#[]⟩ : ByteArray), false)) = some (r1, r2) := by rw [if_pos rfl] at H; exact H
        clear H
        have H := H1
        clear H1
        simp only [Option.some.injEq, Prod.mk.injEq] at H
        obtain ⟨rfl, rfl⟩ := H
        go_wp2
        go_ret2
        exact ⟨by first | rfl | (simp [errW_none, errW_some] <;> rfl) | (simp [*, errW_none, errW_some] <;> rfl), by repeat (first | (with_reducible first | exact HB.out | apply below_alloc | apply pw_below_drewN | apply below_drew1) | exact HB.out)⟩
      · replace c4 := Bool.eq_false_iff.mpr c4
        subst c4
        have H1 : (spec_OfHex.l0 kj1 a0 ([] : List Int) 0) = some (r1, r2) := by rw [if_neg (show ¬ (false = true) by decide)] at H; exact H
        clear H
        have H := H1
        clear H1
        have H' := Aside0.mk H
        clear H
        go_wp2
        go_loopg [4, 5] kj1 (fun kq v4 v5 w' => ∃ (x4_2 : List Int) (x5_2 : Int), v5 = .int .i64 x5_2 ∧ Aside0 (spec_OfHex.l0 kq a0 x4_2 x5_2 = some (r1, r2)) ∧ Aside0 (kq ≤ kj1) ∧ Aside0 (Kd.R (Kd.int .u8) 5 w' w.heap.size (fun _ => True) v4 x4_2) ∧ Aside0 (Below w.heap.size w w'))
        case atStart => exact ⟨(([] : List Int)), (0), (by first | rfl | (simp; done) | (simp [*]; done)), H', ⟨Nat.le_refl _⟩, ⟨by first | exact Kd.R_nil _ _ _ _ _ | exact Kd.N_nil _ _ _ _ _ | exact Kd.V_nil _ _ _ _ _ | exact Kd.Q_nil _ _ _ _ _ | exact Kd.S_nil _ _ _ _ _⟩, ⟨by repeat (first | (with_reducible first | exact HB.out | apply below_alloc | apply pw_below_drewN | apply below_drew1) | exact HB.out)⟩⟩
        case round =>
          clear H'
          try clear p2
          try clear c3
          try clear c3b0
          try clear c3b1
          try clear c4
          try clear p2
          obtain ⟨x4_2, x5_2, rfl, HA, HK2, HO_4, HB⟩ := hrel
          cases gk with
          | zero => exact absurd HA.out (by simp [spec_OfHex.l0])
          | succ k2 =>
            have H := HA.out
            clear HA
            simp only [spec_OfHex.l0] at H
            by_cases c5 : x5_2 < (a0.size : Int)
            · rw [if_pos c5] at H
              have c5b0 : decide (x5_2 < (a0.size : Int)) = true := decide_eq_true c5
              clear c5
              by_cases c6 : 0 ≤ x5_2
              · rw [if_pos c6] at H
                have c6b0 := eq_true c6
                have c6b1 : decide (0 ≤ x5_2) = true := decide_eq_true c6
                clear c6
                by_cases c7 : x5_2 ≤ (wrap64 (x5_2 + 2))
                · rw [if_pos c7] at H
                  have c7b0 := eq_true c7
                  have c7b1 : decide (x5_2 ≤ (wrap64 (x5_2 + 2))) = true := decide_eq_true c7
                  by_cases c8 : (wrap64 (x5_2 + 2)) ≤ (a0.size : Int)
                  · rw [if_pos c8] at H
                    have c8b0 := eq_true c8
                    have c8b1 : decide ((wrap64 (x5_2 + 2)) ≤ (a0.size : Int)) = true := decide_eq_true c8
                    by_cases c9 : (a0.extract (x5_2 : Int).toNat ((wrap64 (x5_2 + 2)) : Int).toNat).size ≤ 9223372036854775807
                    · rw [if_pos c9] at H
                      have c9b0 := eq_true c9
                      have c9b1 : decide ((a0.extract (x5_2 : Int).toNat ((wrap64 (x5_2 + 2)) : Int).toNat).size ≤ 9223372036854775807) = true := decide_eq_true c9
                      try have c9b2 : (9223372036854775807 < (a0.extract (x5_2 : Int).toNat ((wrap64 (x5_2 + 2)) : Int).toNat).size) = False := eq_false (Nat.not_lt.2 c9)
                      obtain ⟨y112, hy112⟩ : ∃ y_ : List Int, y_ = (numsB (a0.extract (x5_2 : Int).toNat ((wrap64 (x5_2 + 2)) : Int).toNat)) := ⟨_, rfl⟩
                      replace H : (spec_OfHex.l1 k2 a0 x4_2 x5_2 0 y112 (y112.length : Int) 0) = some (r1, r2) := by first | (rw [hy112]; with_reducible exact H) | (have H2_ := (Option.bind_some _ _).symm.trans H; rw [hy112]; with_reducible exact H2_) | (have H2_ := (Option.bind_some _ _).symm.trans H; with_reducible exact H2_) | with_reducible exact H | (rw [hy112]; exact H) | exact H
                      have Ny112 := Aside0.mk hy112
                      clear hy112
                      have H' := Aside0.mk H
                      clear H
                      go_wp2_with (first | ((with_reducible refine gate_dst (N := 29) rfl ?_); (try (refine gate_guard (by rfl) ?_; dsimp only)); refine BK.R_bytes 5 (N := 29) rfl rfl 9 27 _ rfl (a0.extract (x5_2 : Int).toNat ((wrap64 (x5_2 + 2)) : Int).toNat) rfl Tryd.underlying9 Tryd.underlying27 Tryd.underlying5 (ok := fun _ => True) trivial (of_decide_eq_true (by first | (with_reducible assumption) | assumption)) (Below.refl _ _) (Nat.le_refl _) ?_; intro v113 w10 ho11 hb hg_ hnew_; clear hg_ hnew_; (first | rw [← Ny112.out] at ho11 | (simp only [Int.reduceToNat] at ho11; rw [← Ny112.out] at ho11)); have n0_ := Aside0.mk (Kd.R_elder' (by (with_reducible repeat (first | apply Kd.R_alloc | apply Kd.R_drewN | apply Kd.R_drew)); exact HO_4.out) (BK.R_base ho11) hb); have n1_ := Aside0.mk (BK.R_lower (BK.R_new' ho11 (Kd.R_lt (by (with_reducible repeat (first | apply Kd.R_alloc | apply Kd.R_drewN | apply Kd.R_drew)); exact HO_4.out))) (below_size (by repeat (first | (with_reducible first | exact HB.out | apply below_alloc | apply pw_below_drewN | apply below_drew1) | exact HB.out)))); have n2_ := Aside0.mk (below_step (by repeat (first | (with_reducible first | exact HB.out | apply below_alloc | apply pw_below_drewN | apply below_drew1) | exact HB.out)) hb); clear HO_4; clear HB; have HO_4 := n0_; have HO114 := n1_; have HB := n2_; clear n0_ n1_ n2_; clear hb ho11; obtain ⟨Ao12, co12, eo12⟩ := BK.R_slice HO114.out; subst eo12))
                      go_loopg [6, 31] k2 (fun kq v6 v31 w' => ∃ (x6_3 : Int) (x31_3 : Int), v6 = .int .i64 x6_3 ∧ v31 = .int .i64 x31_3 ∧ Aside0 (spec_OfHex.l1 kq a0 x4_2 x5_2 x6_3 y112 (y112.length : Int) x31_3 = some (r1, r2)) ∧ Aside0 (kq ≤ k2) ∧ Aside0 (Kd.R (Kd.int .u8) 5 w' w.heap.size (fun k_ => some k_ ≠ ((.slice Ao12 y112.length co12) : Value).ownBlock) u4 x4_2) ∧ Aside0 (BK.R (Kd.int .u8) 5 w' w.heap.size (fun k_ => some k_ ≠ (u4 : Value).ownBlock) (.slice Ao12 y112.length co12) y112) ∧ Aside0 (Below w.heap.size w w'))
                      case atStart => exact ⟨(0), (0), (by first | rfl | (simp; done) | (simp [*]; done)), (by first | rfl | (simp; done) | (simp [*]; done)), H', ⟨Nat.le_refl _⟩, ⟨by (with_reducible repeat (first | apply Kd.R_alloc | apply Kd.R_drewN | apply Kd.R_drew)); exact Kd.R_mono HO_4.out (fun _ hk => hk.2)⟩, ⟨by (with_reducible repeat (first | apply BK.R_alloc | apply BK.R_drewN | apply BK.R_drew)); exact BK.R_mono HO114.out (fun _ hk => hk.2)⟩, ⟨by repeat (first | (with_reducible first | exact HB.out | apply below_alloc | apply pw_below_drewN | apply below_drew1) | exact HB.out)⟩⟩
                      case round =>
                        clear H'
                        try clear p2
                        try clear c3
                        try clear c3b0
                        try clear c3b1
                        try clear c4
                        try clear c5
                        try clear c5b0
                        try clear c6
                        try clear c6b0
                        try clear c6b1
                        try clear p6
                        try clear c7
                        try clear c7b0
                        try clear c7b1
                        try clear c8
                        try clear c8b0
                        try clear c8b1
                        try clear c9
                        try clear c9b0
                        try clear c9b1
                        try clear c9b2
                        try clear p2
                        obtain ⟨x6_3, x31_3, rfl, rfl, HA, HK3, HO_4, HO_29, HB⟩ := hrel
                        cases gk with
                        | zero => exact absurd HA.out (by simp [spec_OfHex.l1])
                        | succ k3 =>
                          have H := HA.out
                          clear HA
                          simp only [spec_OfHex.l1] at H
                          by_cases c13 : x31_3 < (y112.length : Int)
                          · rw [if_pos c13] at H
                            have c13b0 : decide (x31_3 < (y112.length : Int)) = true := decide_eq_true c13
                            clear c13
                            by_cases c14 : 0 ≤ x31_3
                            · rw [if_pos c14] at H
                              have c14b0 : decide (0 ≤ x31_3) = true := decide_eq_true c14
                              clear c14
                              by_cases c15 : x31_3 < (y112.length : Int)
                              · rw [if_pos c15] at H
                                have c15b0 : decide (x31_3 < (y112.length : Int)) = true := decide_eq_true c15
                                clear c15
                                have HC16 := Aside0.mk H
                                clear H
                                have p118 : 0 ≤ (x31_3 : Int) := of_decide_eq_true (by first | (with_reducible assumption) | assumption)
                                have q118 : x31_3 < (y112.length : Int) := of_decide_eq_true (by first | (with_reducible assumption) | assumption)
                                obtain ⟨ad118, e118, hx118_0⟩ := Kd.at_int (BK.R_reads' HO_29.out).2.2 x31_3 p118 q118
                                cases e118
                                replace p118 := eq_true p118
                                replace q118 := eq_true q118
                                go_upto_region 13 with (fail)
                                go_cut [37] (fun v37 wc => ∃ (kq : Nat) (x37_15 : Bool), v37 = .bool x37_15 ∧ Aside0 (spec_OfHex.j3 kq a0 x4_2 x5_2 (wrap64 (x6_3 * 16)) (rd y112 x31_3) y112 (y112.length : Int) x31_3 x37_15 = some (r1, r2)) ∧ Aside0 (kq ≤ k3) ∧ Aside0 (Kd.R (Kd.int .u8) 5 wc w.heap.size (fun k_ => some k_ ≠ ((.slice (some ad118) y112.length co12) : Value).ownBlock) u4 x4_2) ∧ Aside0 (BK.R (Kd.int .u8) 5 wc w.heap.size (fun k_ => some k_ ≠ (u4 : Value).ownBlock) (.slice (some ad118) y112.length co12) y112) ∧ Aside0 (Below w.heap.size w wc))
                                case first =>
                                  have H := HC16.out
                                  clear HC16
                                  by_cases c17 : (rd y112 x31_3) ≥ 48
                                  · rw [if_pos c17] at H
                                    have c17b0 : decide (48 ≤ (rd y112 x31_3)) = true := decide_eq_true c17
                                    clear c17
                                    (first | rw [c17b0] | (simp only [i64_w, i32_w]; rw [c17b0]) | skip)
                                    have H' := Aside0.mk H
                                    clear H
                                    go_wp2
                                    go_meet
                                    case rel => exact ⟨_, (decide ((rd y112 x31_3) ≤ 57)), (by first | rfl | (simp; done) | (simp [*]; done)), H', ⟨by have := HJ1.out; have := HK2.out; have := HK3.out; first | omega | exact Nat.le_refl _⟩, ⟨by (with_reducible repeat (first | apply Kd.R_alloc | apply Kd.R_drewN | apply Kd.R_drew)); exact HO_4.out⟩, ⟨by (with_reducible repeat (first | apply BK.R_alloc | apply BK.R_drewN | apply BK.R_drew)); exact HO_29.out⟩, ⟨by repeat (first | (with_reducible first | exact HB.out | apply below_alloc | apply pw_below_drewN | apply below_drew1) | exact HB.out)⟩⟩
                                  · rw [if_neg c17] at H
                                    have c17b0 : decide (48 ≤ (rd y112 x31_3)) = false := decide_eq_false c17
                                    clear c17
                                    (first | rw [c17b0] | (simp only [i64_w, i32_w]; rw [c17b0]) | skip)
                                    have H' := Aside0.mk H
                                    clear H
                                    go_wp2
                                    go_meet
                                    case rel => exact ⟨_, (false), (by first | rfl | (simp; done) | (simp [*]; done)), H', ⟨by have := HJ1.out; have := HK2.out; have := HK3.out; first | omega | exact Nat.le_refl _⟩, ⟨by (with_reducible repeat (first | apply Kd.R_alloc | apply Kd.R_drewN | apply Kd.R_drew)); exact HO_4.out⟩, ⟨by (with_reducible repeat (first | apply BK.R_alloc | apply BK.R_drewN | apply BK.R_drew)); exact HO_29.out⟩, ⟨by repeat (first | (with_reducible first | exact HB.out | apply below_alloc | apply pw_below_drewN | apply below_drew1) | exact HB.out)⟩⟩
                                case rest =>
                                  clear HC16
                                  try clear c1
                                  try clear p1
                                  try clear q1
                                  try clear hx1
                                  try clear p2
                                  try clear c3
                                  try clear c3b0
                                  try clear c3b1
                                  try clear c4
                                  try clear c5
                                  try clear c5b0
                                  try clear c6
                                  try clear c6b0
                                  try clear c6b1
                                  try clear p6
                                  try clear c7
                                  try clear c7b0
                                  try clear c7b1
                                  try clear c8
                                  try clear c8b0
                                  try clear c8b1
                                  try clear c9
                                  try clear c9b0
                                  try clear c9b1
                                  try clear c9b2
                                  try clear p11
                                  try clear q11
                                  try clear hx11
                                  try clear c13
                                  try clear c13b0
                                  try clear c14
                                  try clear c14b0
                                  try clear c15
                                  try clear c15b0
                                  try clear c17
                                  try clear c17b0
                                  try clear hx118_0
                                  try clear p118
                                  try clear p2
                                  try clear p6
                                  try clear q118
                                  obtain ⟨kq, x37_15, rfl, HA, HJ15, HO_4, HO_29, HB⟩ := hcut
                                  cases kq with
                                  | zero => exact absurd HA.out (by simp [spec_OfHex.j3])
                                  | succ kj15 =>
                                    have H := HA.out
                                    clear HA
                                    simp only [spec_OfHex.j3] at H
                                    by_cases c18 : x37_15 = true
                                    · subst c18
                                      have H1 : (spec_OfHex.l1 kj15 a0 x4_2 x5_2 (wrap64 ((wrap64 (x6_3 * 16)) + (((rd y112 x31_3) - 48) % 256))) y112 (y112.length : Int) (wrap64 (x31_3 + 1))) = some (r1, r2) := by rw [if_pos rfl] at H; exact H
                                      clear H
                                      have H := H1
                                      clear H1
                                      have H' := Aside0.mk H
                                      clear H
                                      go_wp2
                                      go_roundg kj15
                                      case measure => have := HJ1.out; have := HK2.out; have := HK3.out; have := HJ15.out; omega
                                      case rel => exact ⟨(wrap64 ((wrap64 (x6_3 * 16)) + (((rd y112 x31_3) - 48) % 256))), (wrap64 (x31_3 + 1)), (by first | rfl | (simp; done) | (simp [*]; done)), (by first | rfl | (simp; done) | (simp [*]; done)), H', ⟨by have := HJ1.out; have := HK2.out; have := HK3.out; have := HJ15.out; omega⟩, ⟨by (with_reducible repeat (first | apply Kd.R_alloc | apply Kd.R_drewN | apply Kd.R_drew)); exact HO_4.out⟩, ⟨by (with_reducible repeat (first | apply BK.R_alloc | apply BK.R_drewN | apply BK.R_drew)); exact HO_29.out⟩, ⟨by repeat (first | (with_reducible first | exact HB.out | apply below_alloc | apply pw_below_drewN | apply below_drew1) | exact HB.out)⟩⟩
                                    · replace c18 := Bool.eq_false_iff.mpr c18
                                      subst c18
                                      have H1 : (if (rd y112 x31_3) ≥ 97 then (if (rd y112 x31_3) ≤ 102 then (spec_OfHex.l1 kj15 a0 x4_2 x5_2 (wrap64 ((wrap64 (x6_3 * 16)) + ((((rd y112 x31_3) - 97) % 256) + 10))) y112 (y112.length : Int) (wrap64 (x31_3 + 1))) else (some ((⟨#[]⟩ : ByteArray), false))) else (some ((⟨#[]⟩ : ByteArray), false))) = some (r1, r2) := by rw [if_neg (show ¬ (false = true) by decide)] at H; exact H
                                      clear H
                                      have H := H1
                                      clear H1
                                      by_cases c19 : (rd y112 x31_3) ≥ 97
                                      · rw [if_pos c19] at H
                                        have c19b0 : decide (97 ≤ (rd y112 x31_3)) = true := decide_eq_true c19
                                        clear c19
                                        by_cases c20 : (rd y112 x31_3) ≤ 102
                                        · rw [if_pos c20] at H
                                          have c20b0 : decide ((rd y112 x31_3) ≤ 102) = true := decide_eq_true c20
                                          clear c20
                                          have H' := Aside0.mk H
                                          clear H
                                          go_wp2
                                          go_roundg kj15
                                          case measure => have := HJ1.out; have := HK2.out; have := HK3.out; have := HJ15.out; omega
                                          case rel => exact ⟨(wrap64 ((wrap64 (x6_3 * 16)) + ((((rd y112 x31_3) - 97) % 256) + 10))), (wrap64 (x31_3 + 1)), (by first | rfl | (simp; done) | (simp [*]; done)), (by first | rfl | (simp; done) | (simp [*]; done)), H', ⟨by have := HJ1.out; have := HK2.out; have := HK3.out; have := HJ15.out; omega⟩, ⟨by (with_reducible repeat (first | apply Kd.R_alloc | apply Kd.R_drewN | apply Kd.R_drew)); exact HO_4.out⟩, ⟨by (with_reducible repeat (first | apply BK.R_alloc | apply BK.R_drewN | apply BK.R_drew)); exact HO_29.out⟩, ⟨by repeat (first | (with_reducible first | exact HB.out | apply below_alloc | apply pw_below_drewN | apply below_drew1) | exact HB.out)⟩⟩
                                        · rw [if_neg c20] at H
                                          have c20b0 : decide ((rd y112 x31_3) ≤ 102) = false := decide_eq_false c20
                                          clear c20
                                          simp only [Option.some.injEq, Prod.mk.injEq] at H
                                          obtain ⟨rfl, rfl⟩ := H
                                          go_wp2
                                          go_ret2
                                          exact ⟨by first | rfl | (simp [errW_none, errW_some] <;> rfl) | (simp [*, errW_none, errW_some] <;> rfl), by repeat (first | (with_reducible first | exact HB.out | apply below_alloc | apply pw_below_drewN | apply below_drew1) | exact HB.out)⟩
                                      · rw [if_neg c19] at H
                                        have c19b0 : decide (97 ≤ (rd y112 x31_3)) = false := decide_eq_false c19
                                        clear c19
                                        simp only [Option.some.injEq, Prod.mk.injEq] at H
                                        obtain ⟨rfl, rfl⟩ := H
                                        go_wp2
                                        go_ret2
                                        exact ⟨by first | rfl | (simp [errW_none, errW_some] <;> rfl) | (simp [*, errW_none, errW_some] <;> rfl), by repeat (first | (with_reducible first | exact HB.out | apply below_alloc | apply pw_below_drewN | apply below_drew1) | exact HB.out)⟩
                              · rw [if_neg c15] at H
                                exact absurd H (by simp)
                            · rw [if_neg c14] at H
                              exact absurd H (by simp)
                          · rw [if_neg c13] at H
                            have c13b0 : decide (x31_3 < (y112.length : Int)) = false := decide_eq_false c13
                            clear c13
                            by_cases c21 : x4_2.length < 140737488355328
                            · rw [if_pos c21] at H
                              have LMc21 := Aside0.mk c21
                              clear c21
                              obtain ⟨y115, hy115⟩ : ∃ y_ : List Int, y_ = (x4_2 ++ [(x6_3) % 256]) := ⟨_, rfl⟩
                              replace H : (spec_OfHex.l0 k3 a0 y115 (wrap64 (x5_2 + 2))) = some (r1, r2) := by first | (rw [hy115]; with_reducible exact H) | (have H2_ := (Option.bind_some _ _).symm.trans H; rw [hy115]; with_reducible exact H2_) | (have H2_ := (Option.bind_some _ _).symm.trans H; with_reducible exact H2_) | with_reducible exact H | (rw [hy115]; exact H) | exact H
                              have Ny115 := Aside0.mk hy115
                              clear hy115
                              have H' := Aside0.mk H
                              clear H
                              go_wp2_with (first | ((with_reducible refine gate_builtin (b := .append) (xs := #[.tmp 63, .tmp 66]) rfl ?_); (try (refine gate_guard (by rfl) ?_; dsimp only)); at_builtin; refine Kd.R_append (Kd.int .u8) (w0 := w) w.heap.size rfl (.tmp 63) (.tmp 66) 27 5 (.int .u8 0) 1 rfl Tryd.underlying27 info5 rfl (by decide) (by omega) u4 x4_2 ((x6_3) % 256) [.int .u8 ((x6_3) % 256)] (fun k_ => some k_ ≠ (.slice Ao12 y112.length co12 : Value).ownBlock) (fun _ => False) rfl rfl ?aP (fun _ hk => hk.elim) ?aF ?aO ?aB ?aS ?aL ?_; (case aP => exact rfl); (case aB => exact (by repeat (first | (with_reducible first | exact HB.out | apply below_alloc | apply pw_below_drewN | apply below_drew1) | exact HB.out))); (case aF => exact (fun k_ hk => Kd.fresh' (BK.R_lt (by (with_reducible repeat (first | apply BK.R_alloc | apply BK.R_drewN | apply BK.R_drew)); exact HO_29.out)) k_ hk)); (case aO => exact (by (with_reducible repeat (first | apply Kd.R_alloc | apply Kd.R_drewN | apply Kd.R_drew)); exact HO_4.out)); (case aS => exact (below_size (by repeat (first | (with_reducible first | exact HB.out | apply below_alloc | apply pw_below_drewN | apply below_drew1) | exact HB.out)))); (case aL => have := LMc21.out; omega); intro v116 w22 ho hb hg hat; rw [← Ny115.out] at ho; have n0_ := Aside0.mk (BK.R_after (ok := (fun _ => True)) (by (with_reducible repeat (first | apply BK.R_alloc | apply BK.R_drewN | apply BK.R_drew)); exact BK.R_mono HO_29.out (fun _ hk => ⟨trivial, hk⟩)) hg hat); have n1_ := Aside0.mk (hb); have n2_ := Aside0.mk (ho); clear HO_29; clear HB; clear HO_4; have HO_29 := n0_; have HB := n1_; have HO117 := n2_; clear n0_ n1_ n2_; clear ho hb hg hat))
                              go_roundg k3
                              case measure => have := HJ1.out; have := HK2.out; have := HK3.out; omega
                              case rel => exact ⟨(y115), (wrap64 (x5_2 + 2)), (by first | rfl | (simp; done) | (simp [*]; done)), H', ⟨by have := HJ1.out; have := HK2.out; have := HK3.out; omega⟩, ⟨by (with_reducible repeat (first | apply Kd.R_alloc | apply Kd.R_drewN | apply Kd.R_drew)); exact Kd.R_mono HO117.out (fun _ hk => trivial)⟩, ⟨by repeat (first | (with_reducible first | exact HB.out | apply below_alloc | apply pw_below_drewN | apply below_drew1) | exact HB.out)⟩⟩
                            · rw [if_neg c21] at H
                              exact absurd H (by simp)
                    · rw [if_neg c9] at H
                      exact absurd H (by simp)
                  · rw [if_neg c8] at H
                    exact absurd H (by simp)
                · rw [if_neg c7] at H
                  exact absurd H (by simp)
              · rw [if_neg c6] at H
                exact absurd H (by simp)
            · rw [if_neg c5] at H
              have c5b0 : decide (x5_2 < (a0.size : Int)) = false := decide_eq_false c5
              clear c5
              simp only [Option.some.injEq, Prod.mk.injEq] at H
              obtain ⟨rfl, rfl⟩ := H
              have hcv23 := own_string (P := Tryd.prog) Tryd.underlying27 Tryd.underlying5 Tryd.underlying9 (Kd.own_of_R HO_4.out)
              go_wp2
              go_ret2
              exact ⟨by first | rfl | (simp [errW_none, errW_some] <;> rfl) | (simp [*, errW_none, errW_some] <;> rfl), by repeat (first | (with_reducible first | exact HB.out | apply below_alloc | apply pw_below_drewN | apply below_drew1) | exact HB.out)⟩

/-! ### strconv_ParseUint_28: function 28 -/
/-- the variable strconv.ErrSyntax holds an error, or none -/
def TabsIn (w : World) : Prop := ∃ ev, w.cell? ⟨1, 0, none⟩ = some ev ∧ (ev = .nilIface ∨ ∃ te pe, ev = .iface te pe)
theorem tabs_at {w W : World} (h : TabsIn w) (hb : Below w.heap.size w W) : TabsIn W := by
  obtain ⟨ev, hm, hev⟩ := h
  have hlt : 1 < w.heap.size := by
    rcases Nat.lt_or_ge 1 w.heap.size with h' | h'
    · exact h'
    · simp [World.cell?, Array.getElem?_eq_none h'] at hm
  exact ⟨ev, (hb.cell (p := ⟨1, 0, none⟩) hlt).trans hm, hev⟩
def okPu (s : ByteArray) (e : Option Int) : Prop := s.size ≤ 1000000 ∧ (e = none ∨ e = some 2)
instance (s : ByteArray) (e : Option Int) : Decidable (okPu s e) := by unfold okPu; exact inferInstance
def strconv_ParseUint_28.f (k : Nat) (a0 : ByteArray) (a1 a2 : Int) : Option (Int × Option Int) := (strconv_ParseUint_45.f k a0 a1 a2).bind fun r => if okPu a0 r.2 then some r else none
theorem strconv_ParseUint_28.mono : ∀ a0 a1 a2 k, LeO (strconv_ParseUint_28.f k a0 a1 a2) (strconv_ParseUint_28.f (k + 1) a0 a1 a2) := by
  intro a0 a1 a2 k
  unfold strconv_ParseUint_28.f
  exact LeO.bind (strconv_ParseUint_45.mono _ _ _ _) (fun _ => LeO.refl _)
/-- the error that strconv.ParseUint gives: none, or a pointer to a NumError -/
def errPu (e : Option Int) (v : Value) : Prop := match e with
  | none => v = .nilIface
  | some _ => ∃ n : Nat, v = .iface (laysPu17_ren.t 39) (.pointer (some ⟨n, 0, none⟩))
set_option maxHeartbeats 2000000 in
set_option maxRecDepth 100000 in
theorem strconv_ParseUint_28.calls_any (k : Nat) (a0 : ByteArray) (a1 a2 r1 : Int) (r2 : Option Int) (w : World) (htab : TabsIn w) (h : strconv_ParseUint_28.f k a0 a1 a2 = some (r1, r2)) :
    Calls Tryd.prog 28 #[.string a0, .int .i64 a1, .int .i64 a2] w fun e w' => (∃ v, e = .returned (.tuple #[.int .u64 r1, v]) ∧ errPu r2 v) ∧ Below w.heap.size w w' := by
  have hu39 := Tryd.underlying39
  have hu69 := Tryd.underlying69
  obtain ⟨⟨q1, q2⟩, h1, h2⟩ := Option.bind_eq_some_iff.mp h
  clear h
  have hc : okPu a0 q2 := Decidable.byContradiction fun hn => by
    rw [if_neg hn] at h2
    cases h2
  rw [if_pos hc] at h2
  obtain ⟨rfl, rfl⟩ := Prod.mk.inj (Option.some.inj h2)
  obtain ⟨hs, hc⟩ := hc
  clear h2
  have H1 := Aside0.mk h1
  have HT := Aside0.mk htab
  clear h1 htab
  go_enter Tryd.func28, Tryd.ntmps28
  rcases hc with rfl | rfl
  · go_wp2_with fail
    refine (strconv_ParseUint_45.calls k a0 a1 a2 q1 none _ H1.out).mono ?_
    rintro e w1 ⟨rfl, hd⟩
    have B1 := Aside0.mk hd
    clear hd
    simp only [errW_none]
    go_wp2
    go_ret2
    exact ⟨⟨_, rfl, rfl⟩, B1.out⟩
  · go_wp2_with fail
    refine (strconv_ParseUint_45.calls k a0 a1 a2 q1 (some 2) _ H1.out).mono ?_
    rintro e w1 ⟨rfl, hd⟩
    have B1 := Aside0.mk hd
    clear hd
    simp only [errW_some]
    obtain ⟨ev, hv, hev⟩ := tabs_at HT.out B1.out
    have HV := Aside0.mk hv
    have HE := Aside0.mk hev
    clear hv hev
    go_wp2_with fail
    refine (AnyPu.strconv_toError_syntax laysPu17 _ a0 a1 a2 ev _ (by omega) HV.out HE.out).mono ?_
    rintro e w2 ⟨n, rfl, _, _, hb⟩
    have B2 := Aside0.mk hb
    clear hb
    go_wp2
    go_ret2
    exact ⟨⟨_, rfl, n, rfl⟩, below_step B1.out B2.out⟩
theorem strconv_ParseUint_28.calls_ok (k : Nat) (a0 : ByteArray) (a1 a2 r1 : Int) (w : World) (htab : TabsIn w) (h : strconv_ParseUint_28.f k a0 a1 a2 = some (r1, none)) :
    Calls Tryd.prog 28 #[.string a0, .int .i64 a1, .int .i64 a2] w fun e w' => e = .returned (.tuple #[.int .u64 r1, .nilIface]) ∧ Below w.heap.size w w' :=
  (strconv_ParseUint_28.calls_any k a0 a1 a2 r1 none w htab h).mono fun e w' ⟨⟨_, h1, h2⟩, hb⟩ => ⟨by rw [h1, show _ = Value.nilIface from h2], hb⟩
theorem strconv_ParseUint_28.calls_err (k : Nat) (a0 : ByteArray) (a1 a2 r1 q : Int) (w : World) (htab : TabsIn w) (h : strconv_ParseUint_28.f k a0 a1 a2 = some (r1, some q)) :
    Calls Tryd.prog 28 #[.string a0, .int .i64 a1, .int .i64 a2] w fun e w' => (∃ n : Nat, e = .returned (.tuple #[.int .u64 r1, .iface (laysPu17_ren.t 39) (.pointer (some ⟨n, 0, none⟩))])) ∧ Below w.heap.size w w' :=
  (strconv_ParseUint_28.calls_any k a0 a1 a2 r1 (some q) w htab h).mono fun e w' ⟨⟨_, h1, ⟨n, h2⟩⟩, hb⟩ => ⟨⟨n, by rw [h1, h2]⟩, hb⟩


/-! ### impl_hexOf: function 29 -/
def hexD (n : Nat) : UInt8 := UInt8.ofNat (if n < 10 then 48 + n else 87 + n)
def hexL : List UInt8 → List UInt8
  | [] => []
  | b :: t => hexD (b.toNat / 16) :: hexD (b.toNat % 16) :: hexL t
def impl_hexOf.f (a0 : ByteArray) : Option (ByteArray) := if a0.size ≤ 1000000 then some (⟨(hexL a0.data.toList).toArray⟩ : ByteArray) else none
theorem hexL_length : ∀ l, (hexL l).length = 2 * l.length
  | [] => rfl
  | b :: t => by simp [hexL, hexL_length t]; omega
theorem hexL_append : ∀ l m, hexL (l ++ m) = hexL l ++ hexL m
  | [], m => rfl
  | b :: t, m => by simp [hexL, hexL_append t m]
theorem hex_digit : ∀ j : Fin 16, bt (⟨#[48, 49, 50, 51, 52, 53, 54, 55, 56, 57, 97, 98, 99, 100, 101, 102]⟩ : ByteArray) (j.val : Int) = ((hexD j.val).toNat : Int) := by decide +kernel
theorem hex_digit_at (x : Int) (h0 : 0 ≤ x) (h1 : x < 16) : bt (⟨#[48, 49, 50, 51, 52, 53, 54, 55, 56, 57, 97, 98, 99, 100, 101, 102]⟩ : ByteArray) x = ((hexD x.toNat).toNat : Int) := by
  have h := hex_digit ⟨x.toNat, by omega⟩
  have e : ((x.toNat : Nat) : Int) = x := by omega
  simpa only [e] using h
theorem hex_step (s : ByteArray) (i : Nat) (h : i < s.size) : hexL (s.data.toList.take (i + 1)) = hexL (s.data.toList.take i) ++ [hexD ((bt s (i : Int)) / 16).toNat, hexD ((bt s (i : Int)) % 16).toNat] := by
  have hl : i < s.data.toList.length := by rw [← Lib.size_eq]; exact h
  rw [List.take_succ_eq_append_getElem hl, hexL_append]
  congr 1
  have e : bt s (i : Int) = ((s.data.toList[i]).toNat : Int) := by
    unfold bt
    simp only [Int.toNat_natCast]
    rw [dif_pos h]
    simp
    rfl
  rw [e]
  have h1 := (s.data.toList[i]).toNat_lt
  simp only [hexL]
  congr 2
theorem write_byte (B b : Nat) (bs : List Value) (c : Int) (w : World) (h : Lib.IsBuilder 55 5 B b bs w) (hlen : bs.length + 1 ≤ 140737488355328) (hBw : B ≤ w.heap.size) :
    Calls Tryd.prog 43 #[.pointer (some ⟨b, 0, none⟩), .int .u8 c] w fun e w' => e = .returned .nilIface ∧ (Lib.BuilderAt 55 5 B b (.pointer (some ⟨b, 0, none⟩)) (bs ++ [.int .u8 c]) w' ∧ Below B w w') :=
  Any.Builder_WriteByte lays167 builder167 B b bs c w h hlen hBw
theorem builder_string (B b : Nat) (l : List UInt8) (w : World) (h : Lib.IsBuilder 55 5 B b (Lib.byteCells l) w) (hBw : B ≤ w.heap.size) :
    Calls Tryd.prog 44 #[.pointer (some ⟨b, 0, none⟩)] w fun e w' => e = .returned (.string ⟨l.toArray⟩) ∧ Below B w w' :=
  Any.Builder_String_any lays169 builder169 B b l w h hBw
set_option maxHeartbeats 1000000 in
theorem impl_hexOf.calls (a0 : ByteArray) (r : ByteArray) (w : World) (h : impl_hexOf.f a0 = some r) :
    Calls Tryd.prog 29 #[.string a0] w fun e w' => e = .returned (.string r) ∧ Below w.heap.size w w' := by
  have hsz : a0.size ≤ 1000000 := by
    unfold impl_hexOf.f at h
    split at h
    · assumption
    · cases h
  have hr : r = (⟨(hexL a0.data.toList).toArray⟩ : ByteArray) := by
    unfold impl_hexOf.f at h
    rw [if_pos hsz] at h
    exact (Option.some.inj h).symm
  clear h
  obtain ⟨r0, hr0⟩ : ∃ r0 : ByteArray, r0 = r := ⟨_, rfl⟩
  have Hr := Aside0.mk hr
  clear hr hr0
  have h0 := Aside0.mk (Lib.fresh_isBuilder 55 5 w)
  have b0 := Aside0.mk ((Below.refl _ w).alloc (Nat.le_refl _) (.cells #[.pointer none, .slice none 0 0] 55))
  go_enter Tryd.func29, Tryd.ntmps29
  go_wp2
  go_loopg [4, 7] (a0.size) (fun kq v4 v7 w' => ∃ i : Nat, v7 = .int .i64 (i : Int) ∧ Aside0 (i + kq = a0.size) ∧ Aside0 (Lib.IsBuilder 55 5 w.heap.size w.heap.size (Lib.byteCells (hexL (a0.data.toList.take i))) w') ∧ Aside0 (Below w.heap.size w w'))
  case atStart =>
    exact ⟨0, rfl, ⟨by omega⟩, ⟨by simpa [hexL, Lib.byteCells] using h0.out⟩, b0⟩
  case round =>
    clear h0 b0
    obtain ⟨i, rfl, hik, hI, hB⟩ := hrel
    by_cases hlt : i < a0.size
    · have c1 : decide ((i : Int) < (a0.size : Int)) = true := decide_eq_true (by omega)
      have hb0 := (bt_range a0 (i : Int)).1
      have hb1 := (bt_range a0 (i : Int)).2
      have hx4 : ∀ h : i < a0.size, ((a0[i]'h).toNat : Int) = bt a0 (i : Int) := fun h => by unfold bt; simp only [Int.toNat_natCast]; rw [dif_pos h]
      have p4 := eq_true (show (0 : Int) ≤ (i : Int) by omega)
      have q4 := eq_true (show (i : Int) < (a0.size : Int) by omega)
      obtain ⟨j1, hj1⟩ : ∃ j : Int, bt a0 (i : Int) / 16 = j := ⟨_, rfl⟩
      obtain ⟨j2, hj2⟩ : ∃ j : Int, Go.bits .and .u8 (bt a0 (i : Int)) 15 = j := ⟨_, rfl⟩
      have hj2' : bt a0 (i : Int) % 16 = j2 := by rw [← hj2]; exact (u8_and15 _ (by omega) (by omega)).symm
      have J2 := Aside0.mk hj2'
      have J1 := Aside0.mk hj1
      have r1 : 0 ≤ j1 ∧ j1 < 16 := by omega
      have r2 : 0 ≤ j2 ∧ j2 < 16 := by omega
      clear hj2'
      have p8 := eq_true r1.1
      have q8 := eq_true r1.2
      have p9 := eq_true r2.1
      have q9 := eq_true r2.2
      have hx8 := (fun h => (bt_at (⟨#[48, 49, 50, 51, 52, 53, 54, 55, 56, 57, 97, 98, 99, 100, 101, 102]⟩ : ByteArray) j1 h).trans (hex_digit_at j1 r1.1 r1.2))
      have hx9 := (fun h => (bt_at (⟨#[48, 49, 50, 51, 52, 53, 54, 55, 56, 57, 97, 98, 99, 100, 101, 102]⟩ : ByteArray) j2 h).trans (hex_digit_at j2 r2.1 r2.2))
      clear r1 r2
      have hlen : (Lib.byteCells (hexL (a0.data.toList.take i))).length = 2 * i := by
        have := Lib.size_eq a0
        simp [Lib.byteCells, hexL_length]
        simp at this
        omega
      have HL := Aside0.mk hlen
      clear hlen
      go_wp2_with fail
      refine (write_byte w.heap.size w.heap.size _ _ _ hI.out (by have := HL.out; omega) hB.out.size).mono ?_
      rintro e w1 ⟨rfl, h1, b1⟩
      have I1 := Aside0.mk (show Lib.IsBuilder _ _ _ _ _ _ from Or.inr h1)
      have B1 := Aside0.mk (hB.out.trans b1)
      clear h1 b1
      go_wp2_with fail
      refine (write_byte w.heap.size w.heap.size _ _ _ I1.out (by have := HL.out; simp only [List.length_append, List.length_cons, List.length_nil]; omega) B1.out.size).mono ?_
      rintro e w2 ⟨rfl, h2, b2⟩
      have I2 := Aside0.mk (show Lib.IsBuilder _ _ _ _ _ _ from Or.inr h2)
      have B2 := Aside0.mk (B1.out.trans b2)
      clear h2 b2 I1 B1 hI hB
      go_wp2
      go_roundg (gk - 1)
      case measure => have := hik.out; omega
      case rel =>
        refine ⟨i + 1, by simp, ⟨by have := hik.out; omega⟩, ⟨?_⟩, B2⟩
        have hs := hex_step a0 i hlt
        rw [J1.out, J2.out] at hs
        rw [hs]
        have e : Lib.byteCells (hexL (a0.data.toList.take i) ++ [hexD j1.toNat, hexD j2.toNat]) = (Lib.byteCells (hexL (a0.data.toList.take i)) ++ [.int .u8 ((hexD j1.toNat).toNat : Int)]) ++ [.int .u8 ((hexD j2.toNat).toNat : Int)] := by
          simp [Lib.byteCells]
        rw [e]
        exact I2.out
    · have c1 : decide ((i : Int) < (a0.size : Int)) = false := decide_eq_false (by omega)
      go_wp2_with fail
      refine (builder_string w.heap.size w.heap.size _ _ hI.out hB.out.size).mono ?_
      rintro e w1 ⟨rfl, b1⟩
      have B1 := Aside0.mk (hB.out.trans b1)
      clear b1
      go_wp2
      go_ret
      refine ⟨?_, B1.out⟩
      rw [Hr.out, List.take_of_length_le (by have := Lib.size_eq a0; omega)]
      rfl


/-! ### impl_ofHex: function 14 -/
def impl_ofHex.l0 : Nat → ByteArray → List Int → Int → Option (ByteArray × Bool)
  | 0, _, _, _ => none
  | k + 1, x0, x4, x5 => if x5 < (x0.size : Int) then (if 0 ≤ x5 then (if x5 ≤ (wrap64 (x5 + 2)) then (if (wrap64 (x5 + 2)) ≤ (x0.size : Int) then ((strconv_ParseUint_28.f k (x0.extract (x5 : Int).toNat ((wrap64 (x5 + 2)) : Int).toNat) 16 8).bind fun bt119 => (if bt119.2.isNone = true then (if x4.length < 140737488355328 then (impl_ofHex.l0 k x0 (x4 ++ [(bt119.1) % 256]) (wrap64 (x5 + 2))) else (none)) else (some ((⟨#[]⟩ : ByteArray), false)))) else (none)) else (none)) else (none)) else ((impl_hexOf.f (strOfNums x4)).bind fun t125 => (if t125.toList = x0.toList then (some (strOfNums x4, true)) else (some ((⟨#[]⟩ : ByteArray), false))))
def impl_ofHex.f (k : Nat) (a0 : ByteArray) : Option (ByteArray × Bool) := impl_ofHex.l0 k a0 ([] : List Int) 0
theorem impl_ofHex.mono_l : ∀ k, (∀ y0 y1 y2, LeO (impl_ofHex.l0 k y0 y1 y2) (impl_ofHex.l0 (k + 1) y0 y1 y2))
  | 0 => fun _ _ _ r h => by simp [impl_ofHex.l0] at h
  | k + 1 => by
    have ih0 := impl_ofHex.mono_l k
    · intro y0 y1 y2
      unfold impl_ofHex.l0
      repeat' first
      | (with_reducible exact ih0 _ _ _)
      | (with_reducible exact strconv_ParseUint_28.mono _ _ _ _)
      | (with_reducible exact LeO.refl _)
      | (with_reducible exact LeO.none _)
      | (with_reducible refine LeO.ite ?_ ?_)
      | (with_reducible refine LeO.bind ?_ (fun _ => ?_))
      | exact ih0 _ _ _
      | exact strconv_ParseUint_28.mono _ _ _ _
      | exact LeO.none _
      | refine LeO.ite ?_ ?_
      | refine LeO.bind ?_ (fun _ => ?_)
theorem impl_ofHex.mono : ∀ a0 k, LeO (impl_ofHex.f k a0) (impl_ofHex.f (k + 1) a0) := by
  intro a0 k
  have ih0 := impl_ofHex.mono_l k
  unfold impl_ofHex.f
  repeat' first
      | (with_reducible exact ih0 _ _ _)
      | (with_reducible exact strconv_ParseUint_28.mono _ _ _ _)
      | (with_reducible exact LeO.refl _)
      | (with_reducible exact LeO.none _)
      | (with_reducible refine LeO.ite ?_ ?_)
      | (with_reducible refine LeO.bind ?_ (fun _ => ?_))
      | exact ih0 _ _ _
      | exact strconv_ParseUint_28.mono _ _ _ _
      | exact LeO.none _
      | refine LeO.ite ?_ ?_
      | refine LeO.bind ?_ (fun _ => ?_)
set_option maxHeartbeats 8000000 in
set_option maxRecDepth 100000 in
theorem impl_ofHex.calls (k : Nat) (a0 : ByteArray) (r1 : ByteArray) (r2 : Bool) (w : World) (htab : TabsIn w) (h : impl_ofHex.f k a0 = some (r1, r2)) :
    Calls Tryd.prog 14 #[.string a0] w fun e w' => e = .returned (.tuple #[.string r1, .bool r2]) ∧ Below w.heap.size w w' := by
  have HTAB := Aside0.mk htab
  clear htab
  have hu39 := Tryd.underlying39
  have hu69 := Tryd.underlying69
  have HB := Aside0.mk (Below.refl w.heap.size w)
  have H : (impl_ofHex.l0 k a0 ([] : List Int) 0) = some (r1, r2) := h
  clear h
  have H' := Aside0.mk H
  clear H
  go_enter Tryd.func14, Tryd.ntmps14
  go_wp2
  go_loopg [4, 5] k (fun kq v4 v5 w' => ∃ (x4_1 : List Int) (x5_1 : Int), v5 = .int .i64 x5_1 ∧ Aside0 (impl_ofHex.l0 kq a0 x4_1 x5_1 = some (r1, r2)) ∧ Aside0 (kq ≤ k) ∧ Aside0 (Kd.R (Kd.int .u8) 5 w' w.heap.size (fun _ => True) v4 x4_1) ∧ Aside0 (Below w.heap.size w w'))
  case atStart => exact ⟨(([] : List Int)), (0), (by first | rfl | (simp; done) | (simp [*]; done)), H', ⟨Nat.le_refl _⟩, ⟨by first | exact Kd.R_nil _ _ _ _ _ | exact Kd.N_nil _ _ _ _ _ | exact Kd.V_nil _ _ _ _ _ | exact Kd.Q_nil _ _ _ _ _ | exact Kd.S_nil _ _ _ _ _⟩, ⟨by repeat (first | (with_reducible first | exact HB.out | apply below_alloc | apply pw_below_drewN | apply below_drew1) | exact HB.out)⟩⟩
  case round =>
    clear H'
    try clear c1
    obtain ⟨x4_1, x5_1, rfl, HA, HK1, HO_4, HB⟩ := hrel
    cases gk with
    | zero => exact absurd HA.out (by simp [impl_ofHex.l0])
    | succ k1 =>
      have H := HA.out
      clear HA
      simp only [impl_ofHex.l0] at H
      by_cases c2 : x5_1 < (a0.size : Int)
      · rw [if_pos c2] at H
        have c2b0 : decide (x5_1 < (a0.size : Int)) = true := decide_eq_true c2
        clear c2
        by_cases c3 : 0 ≤ x5_1
        · rw [if_pos c3] at H
          have c3b0 := eq_true c3
          have c3b1 : decide (0 ≤ x5_1) = true := decide_eq_true c3
          clear c3
          by_cases c4 : x5_1 ≤ (wrap64 (x5_1 + 2))
          · rw [if_pos c4] at H
            have c4b0 := eq_true c4
            have c4b1 : decide (x5_1 ≤ (wrap64 (x5_1 + 2))) = true := decide_eq_true c4
            by_cases c5 : (wrap64 (x5_1 + 2)) ≤ (a0.size : Int)
            · rw [if_pos c5] at H
              have c5b0 := eq_true c5
              have c5b1 : decide ((wrap64 (x5_1 + 2)) ≤ (a0.size : Int)) = true := decide_eq_true c5
              replace H := Option.bind_eq_some_iff.mp H
              obtain ⟨⟨t119, t120⟩, A60, H⟩ := H
              replace H : (if t120.isNone = true then (if x4_1.length < 140737488355328 then (impl_ofHex.l0 k1 a0 (x4_1 ++ [(t119) % 256]) (wrap64 (x5_1 + 2))) else (none)) else (some ((⟨#[]⟩ : ByteArray), false))) = some (r1, r2) := H
              have A6 := Aside0.mk A60
              clear A60
              rcases t120 with _ | q121
              · have H1 : (if x4_1.length < 140737488355328 then (impl_ofHex.l0 k1 a0 (x4_1 ++ [(t119) % 256]) (wrap64 (x5_1 + 2))) else (none)) = some (r1, r2) := by rw [if_pos (show (none : Option Int).isNone = true by rfl)] at H; exact H
                clear H
                have H := H1
                clear H1
                try simp only [errW_none, errW_some]
                by_cases c7 : x4_1.length < 140737488355328
                · rw [if_pos c7] at H
                  have LMc7 := Aside0.mk c7
                  clear c7
                  obtain ⟨y122, hy122⟩ : ∃ y_ : List Int, y_ = (x4_1 ++ [(t119) % 256]) := ⟨_, rfl⟩
                  replace H : (impl_ofHex.l0 k1 a0 y122 (wrap64 (x5_1 + 2))) = some (r1, r2) := by first | (rw [hy122]; with_reducible exact H) | (have H2_ := (Option.bind_some _ _).symm.trans H; rw [hy122]; with_reducible exact H2_) | (have H2_ := (Option.bind_some _ _).symm.trans H; with_reducible exact H2_) | with_reducible exact H | (rw [hy122]; exact H) | exact H
                  have Ny122 := Aside0.mk hy122
                  clear hy122
                  have H' := Aside0.mk H
                  clear H
                  go_wp2_with (first | ((with_reducible refine gate_callee (f := 28) rfl ?_); refine goesL_ (some 20) rfl rfl Tryd.func28 (by kernel_rfl) rfl #[.string (a0.extract (x5_1 : Int).toNat ((wrap64 (x5_1 + 2)) : Int).toNat), .int .i64 16, .int .i64 8] rfl (by (try simp only [List.map_toArray, List.map_cons, List.map_nil]); first | done | rfl | (simp only [List.length_drop, List.length_take]; rfl)) ?_; (with_reducible refine (strconv_ParseUint_28.calls_ok k1 (a0.extract (x5_1 : Int).toNat ((wrap64 (x5_1 + 2)) : Int).toNat) 16 8 t119 _ (tabs_at HTAB.out (by repeat (first | (with_reducible first | exact HB.out | apply below_alloc | apply pw_below_drewN | apply below_drew1) | exact HB.out))) A6.out).mono ?_); rintro e w8 ⟨rfl, hb⟩; refine ⟨_, rfl, ?_⟩; have n0_ := Aside0.mk (Kd.R_below (by (with_reducible repeat (first | apply Kd.R_alloc | apply Kd.R_drewN | apply Kd.R_drew)); exact HO_4.out) hb); have n1_ := Aside0.mk (below_step (by repeat (first | (with_reducible first | exact HB.out | apply below_alloc | apply pw_below_drewN | apply below_drew1) | exact HB.out)) hb); clear HO_4; clear HB; have HO_4 := n0_; have HB := n1_; clear n0_ n1_; (try clear hb); (try clear hb2); (try clear hk); (try clear hi); (try simp only [errW_none, errW_some])) | ((with_reducible refine gate_builtin (b := .append) (xs := #[.tmp 25, .tmp 28]) rfl ?_); at_builtin; refine Kd.R_append (Kd.int .u8) (w0 := w) w.heap.size rfl (.tmp 25) (.tmp 28) 27 5 (.int .u8 0) 1 rfl Tryd.underlying27 info5 rfl (by decide) (by omega) u4 x4_1 ((t119) % 256) [.int .u8 ((t119) % 256)] (fun _ => True) (fun _ => False) rfl rfl ?aP (fun _ hk => hk.elim) ?aF ?aO ?aB ?aS ?aL ?_; (case aP => exact rfl); (case aB => exact (by repeat (first | (with_reducible first | exact HB.out | apply below_alloc | apply pw_below_drewN | apply below_drew1) | exact HB.out))); (case aF => exact (fun _ _ => trivial)); (case aO => exact (by (with_reducible repeat (first | apply Kd.R_alloc | apply Kd.R_drewN | apply Kd.R_drew)); exact HO_4.out)); (case aS => exact (below_size (by repeat (first | (with_reducible first | exact HB.out | apply below_alloc | apply pw_below_drewN | apply below_drew1) | exact HB.out)))); (case aL => have := LMc7.out; omega); intro v123 w9 ho hb hg hat; rw [← Ny122.out] at ho; have n0_ := Aside0.mk (hb); have n1_ := Aside0.mk (ho); clear HB; clear HO_4; have HB := n0_; have HO124 := n1_; clear n0_ n1_; clear ho hb hg hat))
                  go_roundg k1
                  case measure => have := HK1.out; omega
                  case rel => exact ⟨(y122), (wrap64 (x5_1 + 2)), (by first | rfl | (simp; done) | (simp [*]; done)), H', ⟨by have := HK1.out; omega⟩, ⟨by (with_reducible repeat (first | apply Kd.R_alloc | apply Kd.R_drewN | apply Kd.R_drew)); exact HO124.out⟩, ⟨by repeat (first | (with_reducible first | exact HB.out | apply below_alloc | apply pw_below_drewN | apply below_drew1) | exact HB.out)⟩⟩
                · rw [if_neg c7] at H
                  exact absurd H (by simp)
              · have H1 : (some ((⟨#[]⟩ : ByteArray), false)) = some (r1, r2) := by rw [if_neg (show ¬ (some q121).isNone = true by simp)] at H; exact H
                clear H
                have H := H1
                clear H1
                try simp only [errW_none, errW_some]
                simp only [Option.some.injEq, Prod.mk.injEq] at H
                obtain ⟨rfl, rfl⟩ := H
                go_wp2_with (first | ((with_reducible refine gate_callee (f := 28) rfl ?_); refine goesL_ (some 20) rfl rfl Tryd.func28 (by kernel_rfl) rfl #[.string (a0.extract (x5_1 : Int).toNat ((wrap64 (x5_1 + 2)) : Int).toNat), .int .i64 16, .int .i64 8] rfl (by (try simp only [List.map_toArray, List.map_cons, List.map_nil]); first | done | rfl | (simp only [List.length_drop, List.length_take]; rfl)) ?_; (with_reducible refine (strconv_ParseUint_28.calls_err k1 (a0.extract (x5_1 : Int).toNat ((wrap64 (x5_1 + 2)) : Int).toNat) 16 8 t119 q121 _ (tabs_at HTAB.out (by repeat (first | (with_reducible first | exact HB.out | apply below_alloc | apply pw_below_drewN | apply below_drew1) | exact HB.out))) A6.out).mono ?_); rintro e w10 ⟨⟨nerr_, rfl⟩, hb⟩; refine ⟨_, rfl, ?_⟩; have n0_ := Aside0.mk (Kd.R_below (by (with_reducible repeat (first | apply Kd.R_alloc | apply Kd.R_drewN | apply Kd.R_drew)); exact HO_4.out) hb); have n1_ := Aside0.mk (below_step (by repeat (first | (with_reducible first | exact HB.out | apply below_alloc | apply pw_below_drewN | apply below_drew1) | exact HB.out)) hb); clear HO_4; clear HB; have HO_4 := n0_; have HB := n1_; clear n0_ n1_; (try clear hb); (try clear hb2); (try clear hk); (try clear hi); (try simp only [errW_none, errW_some])))
                go_ret2
                exact ⟨by first | rfl | (simp [errW_none, errW_some] <;> rfl) | (simp [*, errW_none, errW_some] <;> rfl), by repeat (first | (with_reducible first | exact HB.out | apply below_alloc | apply pw_below_drewN | apply below_drew1) | exact HB.out)⟩
            · rw [if_neg c5] at H
              exact absurd H (by simp)
          · rw [if_neg c4] at H
            exact absurd H (by simp)
        · rw [if_neg c3] at H
          exact absurd H (by simp)
      · rw [if_neg c2] at H
        have c2b0 : decide (x5_1 < (a0.size : Int)) = false := decide_eq_false c2
        clear c2
        replace H := Option.bind_eq_some_iff.mp H
        obtain ⟨t125, A110, H⟩ := H
        replace H : (if t125.toList = a0.toList then (some (strOfNums x4_1, true)) else (some ((⟨#[]⟩ : ByteArray), false))) = some (r1, r2) := H
        have A11 := Aside0.mk A110
        clear A110
        by_cases c12 : t125.toList = a0.toList
        · rw [if_pos c12] at H
          have c12b0 : (t125.toList == a0.toList) = true := beq_iff_eq.mpr c12
          have c12b1 : (t125.toList != a0.toList) = false := bne_eq_false_iff_eq.mpr c12
          clear c12
          simp only [Option.some.injEq, Prod.mk.injEq] at H
          obtain ⟨rfl, rfl⟩ := H
          have hcv13 := own_string (P := Tryd.prog) Tryd.underlying27 Tryd.underlying5 Tryd.underlying9 (Kd.own_of_R HO_4.out)
          go_wp2_with (first | ((with_reducible refine gate_callee (f := 29) rfl ?_); refine goesL_ (some 32) rfl rfl Tryd.func29 (by kernel_rfl) rfl #[.string (strOfNums x4_1)] rfl (by (try simp only [List.map_toArray, List.map_cons, List.map_nil]); first | done | rfl | (simp only [List.length_drop, List.length_take]; rfl)) ?_; (with_reducible refine (impl_hexOf.calls (strOfNums x4_1) t125 _ A11.out).mono ?_); rintro e w14 ⟨rfl, hb⟩; refine ⟨_, rfl, ?_⟩; have n0_ := Aside0.mk (Kd.R_below (by (with_reducible repeat (first | apply Kd.R_alloc | apply Kd.R_drewN | apply Kd.R_drew)); exact HO_4.out) hb); have n1_ := Aside0.mk (below_step (by repeat (first | (with_reducible first | exact HB.out | apply below_alloc | apply pw_below_drewN | apply below_drew1) | exact HB.out)) hb); clear HO_4; clear HB; have HO_4 := n0_; have HB := n1_; clear n0_ n1_; (try clear hb); (try clear hb2); (try clear hk); (try clear hi); have hcv15 := own_string (P := Tryd.prog) Tryd.underlying27 Tryd.underlying5 Tryd.underlying9 (Kd.own_of_R HO_4.out)))
          go_ret2
          exact ⟨by first | rfl | (simp [errW_none, errW_some] <;> rfl) | (simp [*, errW_none, errW_some] <;> rfl), by repeat (first | (with_reducible first | exact HB.out | apply below_alloc | apply pw_below_drewN | apply below_drew1) | exact HB.out)⟩
        · rw [if_neg c12] at H
          have c12b0 : (t125.toList == a0.toList) = false := beq_eq_false_iff_ne.mpr c12
          have c12b1 : (t125.toList != a0.toList) = true := bne_iff_ne.mpr c12
          simp only [Option.some.injEq, Prod.mk.injEq] at H
          obtain ⟨rfl, rfl⟩ := H
          have hcv16 := own_string (P := Tryd.prog) Tryd.underlying27 Tryd.underlying5 Tryd.underlying9 (Kd.own_of_R HO_4.out)
          go_wp2_with (first | ((with_reducible refine gate_callee (f := 29) rfl ?_); refine goesL_ (some 32) rfl rfl Tryd.func29 (by kernel_rfl) rfl #[.string (strOfNums x4_1)] rfl (by (try simp only [List.map_toArray, List.map_cons, List.map_nil]); first | done | rfl | (simp only [List.length_drop, List.length_take]; rfl)) ?_; (with_reducible refine (impl_hexOf.calls (strOfNums x4_1) t125 _ A11.out).mono ?_); rintro e w17 ⟨rfl, hb⟩; refine ⟨_, rfl, ?_⟩; have n0_ := Aside0.mk (Kd.R_below (by (with_reducible repeat (first | apply Kd.R_alloc | apply Kd.R_drewN | apply Kd.R_drew)); exact HO_4.out) hb); have n1_ := Aside0.mk (below_step (by repeat (first | (with_reducible first | exact HB.out | apply below_alloc | apply pw_below_drewN | apply below_drew1) | exact HB.out)) hb); clear HO_4; clear HB; have HO_4 := n0_; have HB := n1_; clear n0_ n1_; (try clear hb); (try clear hb2); (try clear hk); (try clear hi)))
          go_ret2
          exact ⟨by first | rfl | (simp [errW_none, errW_some] <;> rfl) | (simp [*, errW_none, errW_some] <;> rfl), by repeat (first | (with_reducible first | exact HB.out | apply below_alloc | apply pw_below_drewN | apply below_drew1) | exact HB.out)⟩

/-! ### impl_OfHex: function 9 -/
def impl_OfHex.f (k : Nat) (a0 : ByteArray) : Option (ByteArray × Bool) := if (a0.size : Int) > 1200 then (some ((⟨#[]⟩ : ByteArray), false)) else (if ((a0.size : Int) % 2) = 1 then (some ((⟨#[]⟩ : ByteArray), false)) else ((impl_ofHex.f k a0).bind fun bt126 => (some (bt126.1, bt126.2))))
theorem impl_OfHex.mono : ∀ a0 k, LeO (impl_OfHex.f k a0) (impl_OfHex.f (k + 1) a0) := by
  intro a0 k
  unfold impl_OfHex.f
  repeat' first
      | (with_reducible exact impl_ofHex.mono _ _)
      | (with_reducible exact LeO.refl _)
      | (with_reducible exact LeO.none _)
      | (with_reducible refine LeO.ite ?_ ?_)
      | (with_reducible refine LeO.bind ?_ (fun _ => ?_))
      | exact impl_ofHex.mono _ _
      | exact LeO.none _
      | refine LeO.ite ?_ ?_
      | refine LeO.bind ?_ (fun _ => ?_)
set_option maxHeartbeats 8000000 in
set_option maxRecDepth 100000 in
theorem impl_OfHex.calls (k : Nat) (a0 : ByteArray) (r1 : ByteArray) (r2 : Bool) (w : World) (htab : TabsIn w) (h : impl_OfHex.f k a0 = some (r1, r2)) :
    Calls Tryd.prog 9 #[.string a0] w fun e w' => e = .returned (.tuple #[.string r1, .bool r2]) ∧ Below w.heap.size w w' := by
  have HTAB := Aside0.mk htab
  clear htab
  have HB := Aside0.mk (Below.refl w.heap.size w)
  have H : (if (a0.size : Int) > 1200 then (some ((⟨#[]⟩ : ByteArray), false)) else (if ((a0.size : Int) % 2) = 1 then (some ((⟨#[]⟩ : ByteArray), false)) else ((impl_ofHex.f k a0).bind fun bt126 => (some (bt126.1, bt126.2))))) = some (r1, r2) := h
  clear h
  by_cases c2 : (a0.size : Int) > 1200
  · rw [if_pos c2] at H
    have c2b0 : decide (1200 < (a0.size : Int)) = true := decide_eq_true c2
    have c2b1 : decide (1200 < a0.size) = true := decide_eq_true (by omega)
    clear c2
    simp only [Option.some.injEq, Prod.mk.injEq] at H
    obtain ⟨rfl, rfl⟩ := H
    go_enter Tryd.func9, Tryd.ntmps9
    go_wp2
    go_ret2
    exact ⟨by first | rfl | (simp [errW_none, errW_some] <;> rfl) | (simp [*, errW_none, errW_some] <;> rfl), by repeat (first | (with_reducible first | exact HB.out | apply below_alloc | apply pw_below_drewN | apply below_drew1) | exact HB.out)⟩
  · rw [if_neg c2] at H
    have c2b0 : decide (1200 < (a0.size : Int)) = false := decide_eq_false c2
    have c2b1 : decide (1200 < a0.size) = false := decide_eq_false (by omega)
    clear c2
    by_cases c3 : ((a0.size : Int) % 2) = 1
    · rw [if_pos c3] at H
      have c3b0 : (((a0.size : Int) % 2) == 1) = true := beq_iff_eq.mpr c3
      have c3b1 : (((a0.size : Int) % 2) != 1) = false := bne_eq_false_iff_eq.mpr c3
      clear c3
      simp only [Option.some.injEq, Prod.mk.injEq] at H
      obtain ⟨rfl, rfl⟩ := H
      go_enter Tryd.func9, Tryd.ntmps9
      go_wp2
      go_ret2
      exact ⟨by first | rfl | (simp [errW_none, errW_some] <;> rfl) | (simp [*, errW_none, errW_some] <;> rfl), by repeat (first | (with_reducible first | exact HB.out | apply below_alloc | apply pw_below_drewN | apply below_drew1) | exact HB.out)⟩
    · rw [if_neg c3] at H
      have c3b0 : (((a0.size : Int) % 2) == 1) = false := beq_eq_false_iff_ne.mpr c3
      have c3b1 : (((a0.size : Int) % 2) != 1) = true := bne_iff_ne.mpr c3
      replace H := Option.bind_eq_some_iff.mp H
      obtain ⟨⟨t126, t127⟩, A40, H⟩ := H
      replace H : (some (t126, t127)) = some (r1, r2) := H
      have A4 := Aside0.mk A40
      clear A40
      simp only [Option.some.injEq, Prod.mk.injEq] at H
      obtain ⟨rfl, rfl⟩ := H
      go_enter Tryd.func9, Tryd.ntmps9
      go_wp2_with (first | ((with_reducible refine gate_callee (f := 14) rfl ?_); refine goesL_ (some 14) rfl rfl Tryd.func14 (by kernel_rfl) rfl #[.string a0] rfl (by (try simp only [List.map_toArray, List.map_cons, List.map_nil]); first | done | rfl | (simp only [List.length_drop, List.length_take]; rfl)) ?_; (with_reducible refine (impl_ofHex.calls k a0 t126 t127 _ (tabs_at HTAB.out (by repeat (first | (with_reducible first | exact HB.out | apply below_alloc | apply pw_below_drewN | apply below_drew1) | exact HB.out))) A4.out).mono ?_); rintro e w5 ⟨rfl, hb⟩; refine ⟨_, rfl, ?_⟩; have n0_ := Aside0.mk (below_step (by repeat (first | (with_reducible first | exact HB.out | apply below_alloc | apply pw_below_drewN | apply below_drew1) | exact HB.out)) hb); clear HB; have HB := n0_; clear n0_; (try clear hb); (try clear hb2); (try clear hk); (try clear hi)))
      go_ret2
      exact ⟨by first | rfl | (simp [errW_none, errW_some] <;> rfl) | (simp [*, errW_none, errW_some] <;> rfl), by repeat (first | (with_reducible first | exact HB.out | apply below_alloc | apply pw_below_drewN | apply below_drew1) | exact HB.out)⟩

end Go.Proofs.YtmajmplhojlhbaaDoor.SFnExactOfHex
