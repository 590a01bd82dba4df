-- Written by sprint.py, a program of this session's, over the kit's print. Not trusted: Lean checks it.
import Derived.Test.YtmajmplhojlhbaaDoorSFnExactOfArmorx0
import Derived.Test.YtmajmplhojlhbaaDoorSFnExactOfArmorx1
import Derived.Test.YtmajmplhojlhbaaDoorSFnExactOfArmorx2
namespace Go.Proofs.YtmajmplhojlhbaaDoor.SFnExactOfArmor
open Go.RowKit Go.Proofs.YtmajmplhojlhbaaDoorW.PrintWords Go.Proofs.YtmajmplhojlhbaaDoorW.PrintLast Go.Proofs.YtmajmplhojlhbaaDoorW.PrintMore
attribute [local go_sem] max2_int min2_int max_two min_two max_three min_three max_four min_four   -- for this text's walks alone
set_option linter.unusedVariables false
set_option linter.unusedSimpArgs false

/-! ### spec_OfArmor: function 10 -/
mutual
def spec_OfArmor.j0 : Nat → ByteArray → List ByteArray → Bool → Option (ByteArray × ByteArray × Bool)
  | 0, _, _, _ => none
  | k + 1, x0, x5, x26 => if x26 = true then (some ((⟨#[]⟩ : ByteArray), (⟨#[]⟩ : ByteArray), false)) else (if 0 < (x5.length : Int) then (if 11 ≤ (wrap64 (((rdOf ByteArray.empty x5 0).size : Int) - 5)) then (if (wrap64 (((rdOf ByteArray.empty x5 0).size : Int) - 5)) ≤ ((rdOf ByteArray.empty x5 0).size : Int) then (if 1 ≤ (wrap64 ((x5.length : Int) - 2)) then (if (wrap64 ((x5.length : Int) - 2)) ≤ (x5.length : Int) then ((some ((x5.take ((wrap64 ((x5.length : Int) - 2)) : Int).toNat).drop 1 : List ByteArray)).bind fun y135 => (spec_OfArmor.l0 k x0 ((rdOf ByteArray.empty x5 0).extract 11 ((wrap64 (((rdOf ByteArray.empty x5 0).size : Int) - 5)) : Int).toNat) (⟨#[]⟩ : ByteArray) y135 (y135.length : Int) 0)) else (none)) else (none)) else (none)) else (none)) else (none))
def spec_OfArmor.l0 : Nat → ByteArray → ByteArray → ByteArray → List ByteArray → Int → Int → Option (ByteArray × ByteArray × Bool)
  | 0, _, _, _, _, _, _ => none
  | k + 1, x0, x6, x7, x40, x41, x42 => if x42 < x41 then (if 0 ≤ x42 then (if x42 < (x40.length : Int) then (if x7.size + (rdOf ByteArray.empty x40 x42).size ≤ 9223372036854775807 then (spec_OfArmor.l0 k x0 x6 (x7 ++ (rdOf ByteArray.empty x40 x42)) x40 x41 (wrap64 (x42 + 1))) else (none)) else (none)) else (none)) else ((spec_l3Of.f k x7).bind fun bt140 => (if bt140.2 = true then ((spec_l3Name.f k x6).bind fun t142 => (if t142 = true then (if (bt140.1.size : Int) > 600 then (some ((⟨#[]⟩ : ByteArray), (⟨#[]⟩ : ByteArray), false)) else ((spec_l3Armor.f k x6 bt140.1).bind fun t143 => (if t143.toList = x0.toList then (some (x6, bt140.1, true)) else (some ((⟨#[]⟩ : ByteArray), (⟨#[]⟩ : ByteArray), false))))) else (some ((⟨#[]⟩ : ByteArray), (⟨#[]⟩ : ByteArray), false)))) else (some ((⟨#[]⟩ : ByteArray), (⟨#[]⟩ : ByteArray), false))))
end
def spec_OfArmor.f (k : Nat) (a0 : ByteArray) : Option (ByteArray × ByteArray × Bool) := if (a0.size : Int) > 1000 then (some ((⟨#[]⟩ : ByteArray), (⟨#[]⟩ : ByteArray), false)) else ((spec_l3Split.f k a0 10).bind fun t129 => (if (t129.length : Int) < 3 then (spec_OfArmor.j0 k a0 t129 true) else (if 0 < (t129.length : Int) then (spec_OfArmor.j0 k a0 t129 (decide (((rdOf ByteArray.empty t129 0).size : Int) < 17))) else (none))))
theorem spec_OfArmor.mono_l : ∀ k, (∀ y0 y1 y2, LeO (spec_OfArmor.j0 k y0 y1 y2) (spec_OfArmor.j0 (k + 1) y0 y1 y2)) ∧ (∀ y0 y1 y2 y3 y4 y5, LeO (spec_OfArmor.l0 k y0 y1 y2 y3 y4 y5) (spec_OfArmor.l0 (k + 1) y0 y1 y2 y3 y4 y5))
  | 0 => ⟨fun _ _ _ r h => by simp [spec_OfArmor.j0] at h, fun _ _ _ _ _ _ r h => by simp [spec_OfArmor.l0] at h⟩
  | k + 1 => by
    obtain ⟨ih0, ih1⟩ := spec_OfArmor.mono_l k
    refine ⟨?_, ?_⟩
    · intro y0 y1 y2
      unfold spec_OfArmor.j0
      repeat' first
      | (with_reducible exact ih0 _ _ _)
      | (with_reducible exact ih1 _ _ _ _ _ _)
      | (with_reducible exact spec_l3Armor.mono _ _ _)
      | (with_reducible exact spec_l3Name.mono _ _)
      | (with_reducible exact spec_l3Of.mono _ _)
      | (with_reducible exact spec_l3Split.mono _ _ _)
      | (with_reducible exact LeO.refl _)
      | (with_reducible exact LeO.none _)
      | (with_reducible refine LeO.ite ?_ ?_)
      | (with_reducible refine LeO.bind ?_ (fun _ => ?_))
      | exact ih0 _ _ _
      | exact ih1 _ _ _ _ _ _
      | exact spec_l3Armor.mono _ _ _
      | exact spec_l3Name.mono _ _
      | exact spec_l3Of.mono _ _
      | exact spec_l3Split.mono _ _ _
      | exact LeO.none _
      | refine LeO.ite ?_ ?_
      | refine LeO.bind ?_ (fun _ => ?_)
    · intro y0 y1 y2 y3 y4 y5
      unfold spec_OfArmor.l0
      repeat' first
      | (with_reducible exact ih0 _ _ _)
      | (with_reducible exact ih1 _ _ _ _ _ _)
      | (with_reducible exact spec_l3Armor.mono _ _ _)
      | (with_reducible exact spec_l3Name.mono _ _)
      | (with_reducible exact spec_l3Of.mono _ _)
      | (with_reducible exact spec_l3Split.mono _ _ _)
      | (with_reducible exact LeO.refl _)
      | (with_reducible exact LeO.none _)
      | (with_reducible refine LeO.ite ?_ ?_)
      | (with_reducible refine LeO.bind ?_ (fun _ => ?_))
      | exact ih0 _ _ _
      | exact ih1 _ _ _ _ _ _
      | exact spec_l3Armor.mono _ _ _
      | exact spec_l3Name.mono _ _
      | exact spec_l3Of.mono _ _
      | exact spec_l3Split.mono _ _ _
      | exact LeO.none _
      | refine LeO.ite ?_ ?_
      | refine LeO.bind ?_ (fun _ => ?_)
theorem spec_OfArmor.mono : ∀ a0 k, LeO (spec_OfArmor.f k a0) (spec_OfArmor.f (k + 1) a0) := by
  intro a0 k
  obtain ⟨ih0, ih1⟩ := spec_OfArmor.mono_l k
  unfold spec_OfArmor.f
  repeat' first
      | (with_reducible exact ih0 _ _ _)
      | (with_reducible exact ih1 _ _ _ _ _ _)
      | (with_reducible exact spec_l3Armor.mono _ _ _)
      | (with_reducible exact spec_l3Name.mono _ _)
      | (with_reducible exact spec_l3Of.mono _ _)
      | (with_reducible exact spec_l3Split.mono _ _ _)
      | (with_reducible exact LeO.refl _)
      | (with_reducible exact LeO.none _)
      | (with_reducible refine LeO.ite ?_ ?_)
      | (with_reducible refine LeO.bind ?_ (fun _ => ?_))
      | exact ih0 _ _ _
      | exact ih1 _ _ _ _ _ _
      | exact spec_l3Armor.mono _ _ _
      | exact spec_l3Name.mono _ _
      | exact spec_l3Of.mono _ _
      | exact spec_l3Split.mono _ _ _
      | exact LeO.none _
      | refine LeO.ite ?_ ?_
      | refine LeO.bind ?_ (fun _ => ?_)
set_option maxHeartbeats 8000000 in
set_option maxRecDepth 100000 in
theorem spec_OfArmor.calls (k : Nat) (a0 : ByteArray) (r1 : ByteArray) (r2 : ByteArray) (r3 : Bool) (w : World) (h : spec_OfArmor.f k a0 = some (r1, r2, r3)) :
    Calls Tryd.prog 10 #[.string a0] w fun e w' => e = .returned (.tuple #[.string r1, .string r2, .bool r3]) ∧ Below w.heap.size w w' := by
  have HB := Aside0.mk (Below.refl w.heap.size w)
  have H : (if (a0.size : Int) > 1000 then (some ((⟨#[]⟩ : ByteArray), (⟨#[]⟩ : ByteArray), false)) else ((spec_l3Split.f k a0 10).bind fun t129 => (if (t129.length : Int) < 3 then (spec_OfArmor.j0 k a0 t129 true) else (if 0 < (t129.length : Int) then (spec_OfArmor.j0 k a0 t129 (decide (((rdOf ByteArray.empty t129 0).size : Int) < 17))) else (none))))) = some (r1, r2, r3) := h
  clear h
  by_cases c2 : (a0.size : Int) > 1000
  · rw [if_pos c2] at H
    have c2b0 : decide (1000 < (a0.size : Int)) = true := decide_eq_true c2
    have c2b1 : decide (1000 < a0.size) = true := decide_eq_true (by omega)
    clear c2
    simp only [Option.some.injEq, Prod.mk.injEq] at H
    obtain ⟨rfl, rfl, rfl⟩ := H
    go_enter Tryd.func10, Tryd.ntmps10
    go_wp2
    repeat (go_quiet (fail); try go_wp2)
    go_ret3
    exact ⟨by first | rfl | (simp [errW_none, errW_some] <;> rfl) | (simp [*, errW_none, errW_some] <;> rfl), by repeat (first | (with_reducible first | exact HB.out | apply below_alloc | apply pw_below_drewN | apply below_drew1) | exact HB.out)⟩
  · rw [if_neg c2] at H
    have c2b0 : decide (1000 < (a0.size : Int)) = false := decide_eq_false c2
    have c2b1 : decide (1000 < a0.size) = false := decide_eq_false (by omega)
    clear c2
    replace H := Option.bind_eq_some_iff.mp H
    obtain ⟨t129, A30, H⟩ := H
    replace H : (if (t129.length : Int) < 3 then (spec_OfArmor.j0 k a0 t129 true) else (if 0 < (t129.length : Int) then (spec_OfArmor.j0 k a0 t129 (decide (((rdOf ByteArray.empty t129 0).size : Int) < 17))) else (none))) = some (r1, r2, r3) := H
    have A3 := Aside0.mk A30
    clear A30
    have HC4 := Aside0.mk H
    clear H
    go_enter Tryd.func10, Tryd.ntmps10
    go_upto_region 4 with (first | (go_at_call 15; (with_reducible refine (spec_l3Split.calls k a0 10 t129 _ A3.out).mono ?_); rintro e w5 ⟨v130, rfl, ho0, hb⟩; have n0_ := Aside0.mk (Kd.R_lower ho0 (below_size (by repeat (first | (with_reducible first | exact HB.out | apply below_alloc | apply pw_below_drewN | apply below_drew1) | exact HB.out)))); have n1_ := Aside0.mk (below_step (by repeat (first | (with_reducible first | exact HB.out | apply below_alloc | apply pw_below_drewN | apply below_drew1) | exact HB.out)) hb); clear HB; have HO131 := n0_; have HB := n1_; clear n0_ n1_; (try clear hb); (try clear hb2); (try clear hk); (try clear hi); (try clear ho0)))
    repeat (go_quiet (first | (go_at_call 15; (with_reducible refine (spec_l3Split.calls k a0 10 t129 _ A3.out).mono ?_); rintro e w5 ⟨v130, rfl, ho0, hb⟩; have n0_ := Aside0.mk (Kd.R_lower ho0 (below_size (by repeat (first | (with_reducible first | exact HB.out | apply below_alloc | apply pw_below_drewN | apply below_drew1) | exact HB.out)))); have n1_ := Aside0.mk (below_step (by repeat (first | (with_reducible first | exact HB.out | apply below_alloc | apply pw_below_drewN | apply below_drew1) | exact HB.out)) hb); clear HB; have HO131 := n0_; have HB := n1_; clear n0_ n1_; (try clear hb); (try clear hb2); (try clear hk); (try clear hi); (try clear ho0))); go_upto_region 4 with (first | (go_at_call 15; (with_reducible refine (spec_l3Split.calls k a0 10 t129 _ A3.out).mono ?_); rintro e w5 ⟨v130, rfl, ho0, hb⟩; have n0_ := Aside0.mk (Kd.R_lower ho0 (below_size (by repeat (first | (with_reducible first | exact HB.out | apply below_alloc | apply pw_below_drewN | apply below_drew1) | exact HB.out)))); have n1_ := Aside0.mk (below_step (by repeat (first | (with_reducible first | exact HB.out | apply below_alloc | apply pw_below_drewN | apply below_drew1) | exact HB.out)) hb); clear HB; have HO131 := n0_; have HB := n1_; clear n0_ n1_; (try clear hb); (try clear hb2); (try clear hk); (try clear hi); (try clear ho0))))
    (try simp only [Act.put, List.setIfInBounds_toArray, List.set_cons_zero, List.set_cons_succ])
    go_cut [26] (fun v26 wc => ∃ (kq : Nat) (x26_3 : Bool), v26 = .bool x26_3 ∧ Aside0 (spec_OfArmor.j0 kq a0 t129 x26_3 = some (r1, r2, r3)) ∧ Aside0 (kq ≤ k) ∧ Aside0 (Kd.R Kd.string 9 wc w.heap.size (fun _ => True) v130 t129) ∧ Aside0 (Below w.heap.size w wc))
    case first =>
      have H := HC4.out
      clear HC4
      by_cases c6 : (t129.length : Int) < 3
      · rw [if_pos c6] at H
        have c6b0 : decide ((t129.length : Int) < 3) = true := decide_eq_true c6
        have c6b1 : decide (t129.length < 3) = true := decide_eq_true (by omega)
        clear c6
        (first | rw [c6b0] | (simp only [i64_w, i32_w]; rw [c6b0]) | skip)
        have H' := Aside0.mk H
        clear H
        obtain ⟨Ao7, co7, eo7⟩ := Kd.R_slice HO131.out
        subst eo7
        go_wp2
        repeat (go_quiet (fail); try go_wp2)
        go_meet
        case rel => exact ⟨_, (true), (by first | rfl | (simp; done) | (simp [*]; done)), H', ⟨by first | omega | exact Nat.le_refl _⟩, ⟨by (with_reducible repeat (first | apply Kd.R_alloc | apply Kd.R_drewN | apply Kd.R_drew)); exact HO131.out⟩, ⟨by repeat (first | (with_reducible first | exact HB.out | apply below_alloc | apply pw_below_drewN | apply below_drew1) | exact HB.out)⟩⟩
      · rw [if_neg c6] at H
        have c6b0 : decide ((t129.length : Int) < 3) = false := decide_eq_false c6
        have c6b1 : decide (t129.length < 3) = false := decide_eq_false (by omega)
        clear c6
        (first | rw [c6b0] | (simp only [i64_w, i32_w]; rw [c6b0]) | skip)
        by_cases c8 : 0 < (t129.length : Int)
        · rw [if_pos c8] at H
          have c8b0 : decide (0 < (t129.length : Int)) = true := decide_eq_true c8
          have c8b1 : decide (0 < t129.length) = true := decide_eq_true (by omega)
          clear c8
          have H' := Aside0.mk H
          clear H
          obtain ⟨Ao9, co9, eo9⟩ := Kd.R_slice HO131.out
          subst eo9
          have p132 : 0 ≤ (0 : Int) := (by omega)
          have q132 : 0 < (t129.length : Int) := of_decide_eq_true (by first | (with_reducible assumption) | assumption)
          obtain ⟨ad132, e132, hx132_0⟩ := Kd.at_string (Kd.R_reads' HO131.out).2.2 0 p132 q132
          cases e132
          have qi132 : (0 < t129.length) = True := eq_true (by omega)
          (try rw [show ((0 : Int)).toNat = 0 from rfl] at hx132_0)
          (try rw [Addr.add_zero'] at hx132_0)
          replace p132 := eq_true p132
          replace q132 := eq_true q132
          go_wp2
          repeat (go_quiet (fail); try go_wp2)
          go_meet
          case rel => exact ⟨_, (decide (((rdOf ByteArray.empty t129 0).size : Int) < 17)), (by first | rfl | (simp; done) | (simp [*]; done)), H', ⟨by first | omega | exact Nat.le_refl _⟩, ⟨by (with_reducible repeat (first | apply Kd.R_alloc | apply Kd.R_drewN | apply Kd.R_drew)); exact HO131.out⟩, ⟨by repeat (first | (with_reducible first | exact HB.out | apply below_alloc | apply pw_below_drewN | apply below_drew1) | exact HB.out)⟩⟩
        · rw [if_neg c8] at H
          exact absurd H (by simp)
    case rest =>
      clear HC4
      try clear c1
      try clear p1
      try clear q1
      try clear hx1
      try clear qi1
      try clear c2
      try clear c2b0
      try clear c2b1
      try clear p2
      try clear c6
      try clear c6b0
      try clear c6b1
      try clear c8
      try clear c8b0
      try clear c8b1
      try clear hx132_0
      try clear p132
      try clear q132
      obtain ⟨kq, x26_3, rfl, HA, HJ3, HO_5, HB⟩ := hcut
      cases kq with
      | zero => exact absurd HA.out (by simp [spec_OfArmor.j0])
      | succ kj3 =>
        have H := HA.out
        clear HA
        simp only [spec_OfArmor.j0] at H
        by_cases c10 : x26_3 = true
        · subst c10
          have H1 : (some ((⟨#[]⟩ : ByteArray), (⟨#[]⟩ : ByteArray), false)) = some (r1, r2, r3) := by rw [if_pos rfl] at H; exact H
          clear H
          have H := H1
          clear H1
          simp only [Option.some.injEq, Prod.mk.injEq] at H
          obtain ⟨rfl, rfl, rfl⟩ := H
          go_wp2
          repeat (go_quiet (fail); try go_wp2)
          go_ret3
          exact ⟨by first | rfl | (simp [errW_none, errW_some] <;> rfl) | (simp [*, errW_none, errW_some] <;> rfl), by repeat (first | (with_reducible first | exact HB.out | apply below_alloc | apply pw_below_drewN | apply below_drew1) | exact HB.out)⟩
        · replace c10 := Bool.eq_false_iff.mpr c10
          subst c10
          have H1 : (if 0 < (t129.length : Int) then (if 11 ≤ (wrap64 (((rdOf ByteArray.empty t129 0).size : Int) - 5)) then (if (wrap64 (((rdOf ByteArray.empty t129 0).size : Int) - 5)) ≤ ((rdOf ByteArray.empty t129 0).size : Int) then (if 1 ≤ (wrap64 ((t129.length : Int) - 2)) then (if (wrap64 ((t129.length : Int) - 2)) ≤ (t129.length : Int) then ((some ((t129.take ((wrap64 ((t129.length : Int) - 2)) : Int).toNat).drop 1 : List ByteArray)).bind fun y135 => (spec_OfArmor.l0 kj3 a0 ((rdOf ByteArray.empty t129 0).extract 11 ((wrap64 (((rdOf ByteArray.empty t129 0).size : Int) - 5)) : Int).toNat) (⟨#[]⟩ : ByteArray) y135 (y135.length : Int) 0)) else (none)) else (none)) else (none)) else (none)) else (none)) = some (r1, r2, r3) := by rw [if_neg (show ¬ (false = true) by decide)] at H; exact H
          clear H
          have H := H1
          clear H1
          by_cases c11 : 0 < (t129.length : Int)
          · rw [if_pos c11] at H
            have c11b0 : decide (0 < (t129.length : Int)) = true := decide_eq_true c11
            have c11b1 : decide (0 < t129.length) = true := decide_eq_true (by omega)
            clear c11
            by_cases c12 : 11 ≤ (wrap64 (((rdOf ByteArray.empty t129 0).size : Int) - 5))
            · rw [if_pos c12] at H
              have c12b0 := eq_true c12
              have c12b1 : decide (11 ≤ (wrap64 (((rdOf ByteArray.empty t129 0).size : Int) - 5))) = true := decide_eq_true c12
              clear c12
              by_cases c13 : (wrap64 (((rdOf ByteArray.empty t129 0).size : Int) - 5)) ≤ ((rdOf ByteArray.empty t129 0).size : Int)
              · rw [if_pos c13] at H
                have c13b0 := eq_true c13
                have c13b1 : decide ((wrap64 (((rdOf ByteArray.empty t129 0).size : Int) - 5)) ≤ ((rdOf ByteArray.empty t129 0).size : Int)) = true := decide_eq_true c13
                clear c13
                by_cases c14 : 1 ≤ (wrap64 ((t129.length : Int) - 2))
                · rw [if_pos c14] at H
                  have c14b0 := eq_true c14
                  have c14b1 : decide (1 ≤ (wrap64 ((t129.length : Int) - 2))) = true := decide_eq_true c14
                  clear c14
                  by_cases c15 : (wrap64 ((t129.length : Int) - 2)) ≤ (t129.length : Int)
                  · rw [if_pos c15] at H
                    have c15b0 := eq_true c15
                    have c15b1 : decide ((wrap64 ((t129.length : Int) - 2)) ≤ (t129.length : Int)) = true := decide_eq_true c15
                    clear c15
                    obtain ⟨y135, hy135⟩ : ∃ y_ : List ByteArray, y_ = ((t129.take ((wrap64 ((t129.length : Int) - 2)) : Int).toNat).drop 1) := ⟨_, rfl⟩
                    replace H : (spec_OfArmor.l0 kj3 a0 ((rdOf ByteArray.empty t129 0).extract 11 ((wrap64 (((rdOf ByteArray.empty t129 0).size : Int) - 5)) : Int).toNat) (⟨#[]⟩ : ByteArray) y135 (y135.length : Int) 0) = some (r1, r2, r3) := by first | (rw [hy135]; with_reducible exact H) | (have H2_ := (Option.bind_some _ _).symm.trans H; rw [hy135]; with_reducible exact H2_) | (have H2_ := (Option.bind_some _ _).symm.trans H; with_reducible exact H2_) | with_reducible exact H | (rw [hy135]; exact H) | exact H
                    have Ny135 := Aside0.mk hy135
                    clear hy135
                    have H' := Aside0.mk H
                    clear H
                    obtain ⟨Ao16, co16, eo16⟩ := Kd.R_slice HO_5.out
                    subst eo16
                    have p133 : 0 ≤ (0 : Int) := (by omega)
                    have q133 : 0 < (t129.length : Int) := of_decide_eq_true (by first | (with_reducible assumption) | assumption)
                    obtain ⟨ad133, e133, hx133_0⟩ := Kd.at_string (Kd.R_reads' HO_5.out).2.2 0 p133 q133
                    cases e133
                    have qi133 : (0 < t129.length) = True := eq_true (by omega)
                    (try rw [show ((0 : Int)).toNat = 0 from rfl] at hx133_0)
                    (try rw [Addr.add_zero'] at hx133_0)
                    replace p133 := eq_true p133
                    replace q133 := eq_true q133
                    have p134 : 0 ≤ (0 : Int) := (by omega)
                    have q134 : 0 < (t129.length : Int) := of_decide_eq_true (by first | (with_reducible assumption) | assumption)
                    obtain ⟨ad134, e134, hx134_0⟩ := Kd.at_string (Kd.R_reads' HO_5.out).2.2 0 p134 q134
                    obtain rfl : ad133 = ad134 := (by injection e134)
                    have qi134 : (0 < t129.length) = True := eq_true (by omega)
                    (try rw [show ((0 : Int)).toNat = 0 from rfl] at hx134_0)
                    (try rw [Addr.add_zero'] at hx134_0)
                    replace p134 := eq_true p134
                    replace q134 := eq_true q134
                    have q17 : ((wrap64 ((t129.length : Int) - 2)) : Int) ≤ ((t129.length : Int) : Int) := of_decide_eq_true (by first | (with_reducible assumption) | assumption)
                    obtain ⟨i017, hi017, _, hsz17, _⟩ := info_parts info9
                    have hroom17 : t129.length ≤ co16 := (Kd.R_reads' HO_5.out).2.1
                    have hC17 : Kd.C Kd.string _ (some ad133) t129.length t129 := (Kd.R_reads' HO_5.out).2.2
                    have ql17 : (1 : Int) ≤ ((wrap64 ((t129.length : Int) - 2)) : Int) := of_decide_eq_true (by first | (with_reducible assumption) | assumption)
                    have hcut17 := cut_mid (P := Tryd.prog) 29 9 .i64 .i64 Tryd.underlying29 hi017 1 hsz17 (some ad133) t129.length co16 1 (wrap64 ((t129.length : Int) - 2)) (by omega) ql17 q17 hroom17
                    have hr17 := Kd.C_mid (lo := (1 : Int).toNat) (hi := ((wrap64 ((t129.length : Int) - 2)) : Int).toNat) (c := co16) hC17 (by omega) (by omega) hroom17
                    obtain ⟨A17, hA17⟩ : ∃ A1, A1 = (if co16 = (1 : Int).toNat then (some ad133) else ((some ad133) : Option Addr).map (·.add ((1 : Int).toNat * 1))) := ⟨_, rfl⟩
                    obtain ⟨c17, hc17⟩ : ∃ c1, c1 = co16 - (1 : Int).toNat := ⟨_, rfl⟩
                    have hy17 : y135.length = ((wrap64 ((t129.length : Int) - 2)) : Int).toNat - (1 : Int).toNat := (by rw [Ny135.out, List.length_drop, List.length_take] <;> omega)
                    rw [show ((t129).take ((wrap64 ((t129.length : Int) - 2)) : Int).toNat).drop (1 : Int).toNat = y135 from Ny135.out.symm] at hr17
                    replace hr17 : Kd.C Kd.string _ A17 y135.length y135 := (by rw [hA17]; exact hr17)
                    rw [← hy17, ← hA17, ← hc17] at hcut17
                    have HR138 := Aside0.mk hr17
                    have HC138 := Aside0.mk (show y135.length ≤ c17 from by rw [hy17, hc17]; exact Nat.sub_le_sub_right (Nat.le_trans (by omega) hroom17) _)
                    clear hr17 hC17 hroom17 hi017 hsz17 hc17
                    have KY17 := Aside0.mk hy17
                    have KA17 := Aside0.mk hA17
                    clear hy17 hA17
                    have KL17 := Aside0.mk (show ((wrap64 ((t129.length : Int) - 2)) : Int).toNat ≤ t129.length from by omega)
                    have KM17 := Aside0.mk (show 1 ≤ ((wrap64 ((t129.length : Int) - 2)) : Int).toNat from by omega)
                    replace q17 := eq_true q17
                    go_wp2
                    repeat (go_quiet (fail); try go_wp2)
                    go_loopg [7, 42] kj3 (fun kq v7 v42 w' => ∃ (x7_2 : ByteArray) (x42_2 : Int), v7 = .string x7_2 ∧ v42 = .int .i64 x42_2 ∧ Aside0 (spec_OfArmor.l0 kq a0 ((rdOf ByteArray.empty t129 0).extract 11 ((wrap64 (((rdOf ByteArray.empty t129 0).size : Int) - 5)) : Int).toNat) x7_2 y135 (y135.length : Int) x42_2 = some (r1, r2, r3)) ∧ Aside0 (kq ≤ kj3) ∧ Aside0 (Kd.C Kd.string w' A17 y135.length y135) ∧ Aside0 (Below w.heap.size w w'))
                    case atStart => exact ⟨((⟨#[]⟩ : ByteArray)), (0), (by first | rfl | (simp; done) | (simp [*]; done)), (by first | rfl | (simp; done) | (simp [*]; done)), H', ⟨Nat.le_refl _⟩, ⟨by repeat (first | (with_reducible exact HR138.out) | (with_reducible refine Kd.C_alloc ?_ _) | (with_reducible refine Kd.C_drewN ?_ _) | (with_reducible refine Kd.C_drew ?_) | exact HR138.out)⟩, ⟨by repeat (first | (with_reducible first | exact HB.out | apply below_alloc | apply pw_below_drewN | apply below_drew1) | exact HB.out)⟩⟩
                    case round =>
                      clear H'
                      try clear c1
                      try clear p1
                      try clear q1
                      try clear hx1
                      try clear qi1
                      try clear c2
                      try clear c2b0
                      try clear c2b1
                      try clear p2
                      try clear c6
                      try clear c6b0
                      try clear c6b1
                      try clear p6
                      try clear c8
                      try clear c8b0
                      try clear c8b1
                      try clear c10
                      try clear c11
                      try clear c11b0
                      try clear c11b1
                      try clear c12
                      try clear c12b0
                      try clear c12b1
                      try clear c13
                      try clear c13b0
                      try clear c13b1
                      try clear p13
                      try clear q13
                      try clear hx13
                      try clear qi13
                      try clear c14
                      try clear c14b0
                      try clear c14b1
                      try clear c15
                      try clear c15b0
                      try clear c15b1
                      try clear c17
                      try clear q17
                      try clear hx132_0
                      try clear hx133_0
                      try clear hx134_0
                      try clear p1
                      try clear p132
                      try clear p133
                      try clear p134
                      try clear p2
                      try clear q1
                      try clear q132
                      try clear q133
                      try clear q134
                      try clear q17
                      obtain ⟨x7_2, x42_2, rfl, rfl, HA, HK2, HR138, HB⟩ := hrel
                      cases gk with
                      | zero => exact absurd HA.out (by simp [spec_OfArmor.l0])
                      | succ k2 =>
                        have H := HA.out
                        clear HA
                        simp only [spec_OfArmor.l0] at H
                        by_cases c18 : x42_2 < (y135.length : Int)
                        · rw [if_pos c18] at H
                          have c18b0 : decide (x42_2 < (y135.length : Int)) = true := decide_eq_true c18
                          clear c18
                          by_cases c19 : 0 ≤ x42_2
                          · rw [if_pos c19] at H
                            have c19b0 : decide (0 ≤ x42_2) = true := decide_eq_true c19
                            clear c19
                            by_cases c20 : x42_2 < (y135.length : Int)
                            · rw [if_pos c20] at H
                              have c20b0 : decide (x42_2 < (y135.length : Int)) = true := decide_eq_true c20
                              clear c20
                              by_cases c21 : x7_2.size + (rdOf ByteArray.empty y135 x42_2).size ≤ 9223372036854775807
                              · rw [if_pos c21] at H
                                have c21b0 := eq_true c21
                                have c21b1 : decide (x7_2.size + (rdOf ByteArray.empty y135 x42_2).size ≤ 9223372036854775807) = true := decide_eq_true c21
                                try have c21b2 : (9223372036854775807 < x7_2.size + (rdOf ByteArray.empty y135 x42_2).size) = False := eq_false (Nat.not_lt.2 c21)
                                have H' := Aside0.mk H
                                clear H
                                have p139 : 0 ≤ (x42_2 : Int) := of_decide_eq_true (by first | (with_reducible assumption) | assumption)
                                have q139 : x42_2 < (y135.length : Int) := of_decide_eq_true (by first | (with_reducible assumption) | assumption)
                                obtain ⟨ad139, e139, hx139_0⟩ := Kd.at_string HR138.out x42_2 p139 q139
                                cases e139
                                try replace hx139_0 := (HB.out.cell (World.block_lt_of_cell? w _ hx139_0)).trans hx139_0
                                replace p139 := eq_true p139
                                replace q139 := eq_true q139
                                go_wp2
                                repeat (go_quiet (fail); try go_wp2)
                                go_roundg k2
                                case measure => have := HJ3.out; have := HK2.out; omega
                                case rel => exact ⟨(x7_2 ++ (rdOf ByteArray.empty y135 x42_2)), (wrap64 (x42_2 + 1)), (by first | rfl | (simp; done) | (simp [*]; done)), (by first | rfl | (simp; done) | (simp [*]; done)), H', ⟨by have := HJ3.out; have := HK2.out; omega⟩, ⟨by repeat (first | (with_reducible exact HR138.out) | (with_reducible refine Kd.C_alloc ?_ _) | (with_reducible refine Kd.C_drewN ?_ _) | (with_reducible refine Kd.C_drew ?_) | exact HR138.out)⟩, ⟨by repeat (first | (with_reducible first | exact HB.out | apply below_alloc | apply pw_below_drewN | apply below_drew1) | exact HB.out)⟩⟩
                              · rw [if_neg c21] at H
                                exact absurd H (by simp)
                            · rw [if_neg c20] at H
                              exact absurd H (by simp)
                          · rw [if_neg c19] at H
                            exact absurd H (by simp)
                        · rw [if_neg c18] at H
                          have c18b0 : decide (x42_2 < (y135.length : Int)) = false := decide_eq_false c18
                          clear c18
                          replace H := Option.bind_eq_some_iff.mp H
                          obtain ⟨⟨t140, t141⟩, A220, H⟩ := H
                          replace H : (if t141 = true then ((spec_l3Name.f k2 ((rdOf ByteArray.empty t129 0).extract 11 ((wrap64 (((rdOf ByteArray.empty t129 0).size : Int) - 5)) : Int).toNat)).bind fun t142 => (if t142 = true then (if (t140.size : Int) > 600 then (some ((⟨#[]⟩ : ByteArray), (⟨#[]⟩ : ByteArray), false)) else ((spec_l3Armor.f k2 ((rdOf ByteArray.empty t129 0).extract 11 ((wrap64 (((rdOf ByteArray.empty t129 0).size : Int) - 5)) : Int).toNat) t140).bind fun t143 => (if t143.toList = a0.toList then (some (((rdOf ByteArray.empty t129 0).extract 11 ((wrap64 (((rdOf ByteArray.empty t129 0).size : Int) - 5)) : Int).toNat), t140, true)) else (some ((⟨#[]⟩ : ByteArray), (⟨#[]⟩ : ByteArray), false))))) else (some ((⟨#[]⟩ : ByteArray), (⟨#[]⟩ : ByteArray), false)))) else (some ((⟨#[]⟩ : ByteArray), (⟨#[]⟩ : ByteArray), false))) = some (r1, r2, r3) := H
                          have A22 := Aside0.mk A220
                          clear A220
                          by_cases c23 : t141 = true
                          · subst c23
                            have H1 : ((spec_l3Name.f k2 ((rdOf ByteArray.empty t129 0).extract 11 ((wrap64 (((rdOf ByteArray.empty t129 0).size : Int) - 5)) : Int).toNat)).bind fun t142 => (if t142 = true then (if (t140.size : Int) > 600 then (some ((⟨#[]⟩ : ByteArray), (⟨#[]⟩ : ByteArray), false)) else ((spec_l3Armor.f k2 ((rdOf ByteArray.empty t129 0).extract 11 ((wrap64 (((rdOf ByteArray.empty t129 0).size : Int) - 5)) : Int).toNat) t140).bind fun t143 => (if t143.toList = a0.toList then (some (((rdOf ByteArray.empty t129 0).extract 11 ((wrap64 (((rdOf ByteArray.empty t129 0).size : Int) - 5)) : Int).toNat), t140, true)) else (some ((⟨#[]⟩ : ByteArray), (⟨#[]⟩ : ByteArray), false))))) else (some ((⟨#[]⟩ : ByteArray), (⟨#[]⟩ : ByteArray), false)))) = some (r1, r2, r3) := by rw [if_pos rfl] at H; exact H
                            clear H
                            have H := H1
                            clear H1
                            replace H := Option.bind_eq_some_iff.mp H
                            obtain ⟨t142, A240, H⟩ := H
                            replace H : (if t142 = true then (if (t140.size : Int) > 600 then (some ((⟨#[]⟩ : ByteArray), (⟨#[]⟩ : ByteArray), false)) else ((spec_l3Armor.f k2 ((rdOf ByteArray.empty t129 0).extract 11 ((wrap64 (((rdOf ByteArray.empty t129 0).size : Int) - 5)) : Int).toNat) t140).bind fun t143 => (if t143.toList = a0.toList then (some (((rdOf ByteArray.empty t129 0).extract 11 ((wrap64 (((rdOf ByteArray.empty t129 0).size : Int) - 5)) : Int).toNat), t140, true)) else (some ((⟨#[]⟩ : ByteArray), (⟨#[]⟩ : ByteArray), false))))) else (some ((⟨#[]⟩ : ByteArray), (⟨#[]⟩ : ByteArray), false))) = some (r1, r2, r3) := H
                            have A24 := Aside0.mk A240
                            clear A240
                            by_cases c25 : t142 = true
                            · subst c25
                              have H1 : (if (t140.size : Int) > 600 then (some ((⟨#[]⟩ : ByteArray), (⟨#[]⟩ : ByteArray), false)) else ((spec_l3Armor.f k2 ((rdOf ByteArray.empty t129 0).extract 11 ((wrap64 (((rdOf ByteArray.empty t129 0).size : Int) - 5)) : Int).toNat) t140).bind fun t143 => (if t143.toList = a0.toList then (some (((rdOf ByteArray.empty t129 0).extract 11 ((wrap64 (((rdOf ByteArray.empty t129 0).size : Int) - 5)) : Int).toNat), t140, true)) else (some ((⟨#[]⟩ : ByteArray), (⟨#[]⟩ : ByteArray), false))))) = some (r1, r2, r3) := by rw [if_pos rfl] at H; exact H
                              clear H
                              have H := H1
                              clear H1
                              by_cases c26 : (t140.size : Int) > 600
                              · rw [if_pos c26] at H
                                have c26b0 : decide (600 < (t140.size : Int)) = true := decide_eq_true c26
                                have c26b1 : decide (600 < t140.size) = true := decide_eq_true (by omega)
                                clear c26
                                simp only [Option.some.injEq, Prod.mk.injEq] at H
                                obtain ⟨rfl, rfl, rfl⟩ := H
                                go_wp2_with (first | (go_at_call 12; (with_reducible refine (spec_l3Of.calls k2 x7_2 t140 true _ A22.out).mono ?_); rintro e w27 ⟨rfl, hb⟩; have n0_ := Aside0.mk (Kd.C_below (by repeat (first | (with_reducible exact HR138.out) | (with_reducible refine Kd.C_alloc ?_ _) | (with_reducible refine Kd.C_drewN ?_ _) | (with_reducible refine Kd.C_drew ?_) | exact HR138.out)) hb); have n1_ := Aside0.mk (below_step (by repeat (first | (with_reducible first | exact HB.out | apply below_alloc | apply pw_below_drewN | apply below_drew1) | exact HB.out)) hb); clear HR138; clear HB; have HR138 := n0_; have HB := n1_; clear n0_ n1_; (try clear hb); (try clear hb2); (try clear hk); (try clear hi)) | (go_at_call 16; (with_reducible refine (spec_l3Name.calls k2 ((rdOf ByteArray.empty t129 0).extract 11 ((wrap64 (((rdOf ByteArray.empty t129 0).size : Int) - 5)) : Int).toNat) true _ A24.out).mono ?_); rintro e w' ⟨rfl, ⟨nd, rfl⟩⟩; (try first | exact ⟨rfl, _, World.drewN_drewN _ _ _⟩ | exact ⟨rfl, _, Eq.trans (World.drewN_drewN _ _ _) (congrArg (World.drewN _) (Nat.add_assoc _ _ _))⟩)))
                                repeat (go_quiet (first | (go_at_call 12; (with_reducible refine (spec_l3Of.calls k2 x7_2 t140 true _ A22.out).mono ?_); rintro e w27 ⟨rfl, hb⟩; have n0_ := Aside0.mk (Kd.C_below (by repeat (first | (with_reducible exact HR138.out) | (with_reducible refine Kd.C_alloc ?_ _) | (with_reducible refine Kd.C_drewN ?_ _) | (with_reducible refine Kd.C_drew ?_) | exact HR138.out)) hb); have n1_ := Aside0.mk (below_step (by repeat (first | (with_reducible first | exact HB.out | apply below_alloc | apply pw_below_drewN | apply below_drew1) | exact HB.out)) hb); clear HR138; clear HB; have HR138 := n0_; have HB := n1_; clear n0_ n1_; (try clear hb); (try clear hb2); (try clear hk); (try clear hi)) | (go_at_call 16; (with_reducible refine (spec_l3Name.calls k2 ((rdOf ByteArray.empty t129 0).extract 11 ((wrap64 (((rdOf ByteArray.empty t129 0).size : Int) - 5)) : Int).toNat) true _ A24.out).mono ?_); rintro e w' ⟨rfl, ⟨nd, rfl⟩⟩; (try first | exact ⟨rfl, _, World.drewN_drewN _ _ _⟩ | exact ⟨rfl, _, Eq.trans (World.drewN_drewN _ _ _) (congrArg (World.drewN _) (Nat.add_assoc _ _ _))⟩))); try go_wp2_with (first | (go_at_call 12; (with_reducible refine (spec_l3Of.calls k2 x7_2 t140 true _ A22.out).mono ?_); rintro e w27 ⟨rfl, hb⟩; have n0_ := Aside0.mk (Kd.C_below (by repeat (first | (with_reducible exact HR138.out) | (with_reducible refine Kd.C_alloc ?_ _) | (with_reducible refine Kd.C_drewN ?_ _) | (with_reducible refine Kd.C_drew ?_) | exact HR138.out)) hb); have n1_ := Aside0.mk (below_step (by repeat (first | (with_reducible first | exact HB.out | apply below_alloc | apply pw_below_drewN | apply below_drew1) | exact HB.out)) hb); clear HR138; clear HB; have HR138 := n0_; have HB := n1_; clear n0_ n1_; (try clear hb); (try clear hb2); (try clear hk); (try clear hi)) | (go_at_call 16; (with_reducible refine (spec_l3Name.calls k2 ((rdOf ByteArray.empty t129 0).extract 11 ((wrap64 (((rdOf ByteArray.empty t129 0).size : Int) - 5)) : Int).toNat) true _ A24.out).mono ?_); rintro e w' ⟨rfl, ⟨nd, rfl⟩⟩; (try first | exact ⟨rfl, _, World.drewN_drewN _ _ _⟩ | exact ⟨rfl, _, Eq.trans (World.drewN_drewN _ _ _) (congrArg (World.drewN _) (Nat.add_assoc _ _ _))⟩))))
                                go_ret3
                                exact ⟨by first | rfl | (simp [errW_none, errW_some] <;> rfl) | (simp [*, errW_none, errW_some] <;> rfl), by repeat (first | (with_reducible first | exact HB.out | apply below_alloc | apply pw_below_drewN | apply below_drew1) | exact HB.out)⟩
                              · rw [if_neg c26] at H
                                have c26b0 : decide (600 < (t140.size : Int)) = false := decide_eq_false c26
                                have c26b1 : decide (600 < t140.size) = false := decide_eq_false (by omega)
                                clear c26
                                replace H := Option.bind_eq_some_iff.mp H
                                obtain ⟨t143, A280, H⟩ := H
                                replace H : (if t143.toList = a0.toList then (some (((rdOf ByteArray.empty t129 0).extract 11 ((wrap64 (((rdOf ByteArray.empty t129 0).size : Int) - 5)) : Int).toNat), t140, true)) else (some ((⟨#[]⟩ : ByteArray), (⟨#[]⟩ : ByteArray), false))) = some (r1, r2, r3) := H
                                have A28 := Aside0.mk A280
                                clear A280
                                by_cases c29 : t143.toList = a0.toList
                                · rw [if_pos c29] at H
                                  have c29b0 : (t143.toList == a0.toList) = true := beq_iff_eq.mpr c29
                                  have c29b1 : (t143.toList != a0.toList) = false := bne_eq_false_iff_eq.mpr c29
                                  clear c29
                                  simp only [Option.some.injEq, Prod.mk.injEq] at H
                                  obtain ⟨rfl, rfl, rfl⟩ := H
                                  go_wp2_with (first | (go_at_call 12; (with_reducible refine (spec_l3Of.calls k2 x7_2 t140 true _ A22.out).mono ?_); rintro e w30 ⟨rfl, hb⟩; have n0_ := Aside0.mk (Kd.C_below (by repeat (first | (with_reducible exact HR138.out) | (with_reducible refine Kd.C_alloc ?_ _) | (with_reducible refine Kd.C_drewN ?_ _) | (with_reducible refine Kd.C_drew ?_) | exact HR138.out)) hb); have n1_ := Aside0.mk (below_step (by repeat (first | (with_reducible first | exact HB.out | apply below_alloc | apply pw_below_drewN | apply below_drew1) | exact HB.out)) hb); clear HR138; clear HB; have HR138 := n0_; have HB := n1_; clear n0_ n1_; (try clear hb); (try clear hb2); (try clear hk); (try clear hi)) | (go_at_call 16; (with_reducible refine (spec_l3Name.calls k2 ((rdOf ByteArray.empty t129 0).extract 11 ((wrap64 (((rdOf ByteArray.empty t129 0).size : Int) - 5)) : Int).toNat) true _ A24.out).mono ?_); rintro e w' ⟨rfl, ⟨nd, rfl⟩⟩; (try first | exact ⟨rfl, _, World.drewN_drewN _ _ _⟩ | exact ⟨rfl, _, Eq.trans (World.drewN_drewN _ _ _) (congrArg (World.drewN _) (Nat.add_assoc _ _ _))⟩)) | (go_at_call 17; (with_reducible refine (spec_l3Armor.calls k2 ((rdOf ByteArray.empty t129 0).extract 11 ((wrap64 (((rdOf ByteArray.empty t129 0).size : Int) - 5)) : Int).toNat) t140 t143 _ A28.out).mono ?_); rintro e w31 ⟨rfl, hb⟩; have n0_ := Aside0.mk (Kd.C_below (by repeat (first | (with_reducible exact HR138.out) | (with_reducible refine Kd.C_alloc ?_ _) | (with_reducible refine Kd.C_drewN ?_ _) | (with_reducible refine Kd.C_drew ?_) | exact HR138.out)) hb); have n1_ := Aside0.mk (below_step (by repeat (first | (with_reducible first | exact HB.out | apply below_alloc | apply pw_below_drewN | apply below_drew1) | exact HB.out)) hb); clear HR138; clear HB; have HR138 := n0_; have HB := n1_; clear n0_ n1_; (try clear hb); (try clear hb2); (try clear hk); (try clear hi)))
                                  repeat (go_quiet (first | (go_at_call 12; (with_reducible refine (spec_l3Of.calls k2 x7_2 t140 true _ A22.out).mono ?_); rintro e w30 ⟨rfl, hb⟩; have n0_ := Aside0.mk (Kd.C_below (by repeat (first | (with_reducible exact HR138.out) | (with_reducible refine Kd.C_alloc ?_ _) | (with_reducible refine Kd.C_drewN ?_ _) | (with_reducible refine Kd.C_drew ?_) | exact HR138.out)) hb); have n1_ := Aside0.mk (below_step (by repeat (first | (with_reducible first | exact HB.out | apply below_alloc | apply pw_below_drewN | apply below_drew1) | exact HB.out)) hb); clear HR138; clear HB; have HR138 := n0_; have HB := n1_; clear n0_ n1_; (try clear hb); (try clear hb2); (try clear hk); (try clear hi)) | (go_at_call 16; (with_reducible refine (spec_l3Name.calls k2 ((rdOf ByteArray.empty t129 0).extract 11 ((wrap64 (((rdOf ByteArray.empty t129 0).size : Int) - 5)) : Int).toNat) true _ A24.out).mono ?_); rintro e w' ⟨rfl, ⟨nd, rfl⟩⟩; (try first | exact ⟨rfl, _, World.drewN_drewN _ _ _⟩ | exact ⟨rfl, _, Eq.trans (World.drewN_drewN _ _ _) (congrArg (World.drewN _) (Nat.add_assoc _ _ _))⟩)) | (go_at_call 17; (with_reducible refine (spec_l3Armor.calls k2 ((rdOf ByteArray.empty t129 0).extract 11 ((wrap64 (((rdOf ByteArray.empty t129 0).size : Int) - 5)) : Int).toNat) t140 t143 _ A28.out).mono ?_); rintro e w31 ⟨rfl, hb⟩; have n0_ := Aside0.mk (Kd.C_below (by repeat (first | (with_reducible exact HR138.out) | (with_reducible refine Kd.C_alloc ?_ _) | (with_reducible refine Kd.C_drewN ?_ _) | (with_reducible refine Kd.C_drew ?_) | exact HR138.out)) hb); have n1_ := Aside0.mk (below_step (by repeat (first | (with_reducible first | exact HB.out | apply below_alloc | apply pw_below_drewN | apply below_drew1) | exact HB.out)) hb); clear HR138; clear HB; have HR138 := n0_; have HB := n1_; clear n0_ n1_; (try clear hb); (try clear hb2); (try clear hk); (try clear hi))); try go_wp2_with (first | (go_at_call 12; (with_reducible refine (spec_l3Of.calls k2 x7_2 t140 true _ A22.out).mono ?_); rintro e w30 ⟨rfl, hb⟩; have n0_ := Aside0.mk (Kd.C_below (by repeat (first | (with_reducible exact HR138.out) | (with_reducible refine Kd.C_alloc ?_ _) | (with_reducible refine Kd.C_drewN ?_ _) | (with_reducible refine Kd.C_drew ?_) | exact HR138.out)) hb); have n1_ := Aside0.mk (below_step (by repeat (first | (with_reducible first | exact HB.out | apply below_alloc | apply pw_below_drewN | apply below_drew1) | exact HB.out)) hb); clear HR138; clear HB; have HR138 := n0_; have HB := n1_; clear n0_ n1_; (try clear hb); (try clear hb2); (try clear hk); (try clear hi)) | (go_at_call 16; (with_reducible refine (spec_l3Name.calls k2 ((rdOf ByteArray.empty t129 0).extract 11 ((wrap64 (((rdOf ByteArray.empty t129 0).size : Int) - 5)) : Int).toNat) true _ A24.out).mono ?_); rintro e w' ⟨rfl, ⟨nd, rfl⟩⟩; (try first | exact ⟨rfl, _, World.drewN_drewN _ _ _⟩ | exact ⟨rfl, _, Eq.trans (World.drewN_drewN _ _ _) (congrArg (World.drewN _) (Nat.add_assoc _ _ _))⟩)) | (go_at_call 17; (with_reducible refine (spec_l3Armor.calls k2 ((rdOf ByteArray.empty t129 0).extract 11 ((wrap64 (((rdOf ByteArray.empty t129 0).size : Int) - 5)) : Int).toNat) t140 t143 _ A28.out).mono ?_); rintro e w31 ⟨rfl, hb⟩; have n0_ := Aside0.mk (Kd.C_below (by repeat (first | (with_reducible exact HR138.out) | (with_reducible refine Kd.C_alloc ?_ _) | (with_reducible refine Kd.C_drewN ?_ _) | (with_reducible refine Kd.C_drew ?_) | exact HR138.out)) hb); have n1_ := Aside0.mk (below_step (by repeat (first | (with_reducible first | exact HB.out | apply below_alloc | apply pw_below_drewN | apply below_drew1) | exact HB.out)) hb); clear HR138; clear HB; have HR138 := n0_; have HB := n1_; clear n0_ n1_; (try clear hb); (try clear hb2); (try clear hk); (try clear hi))))
                                  go_ret3
                                  exact ⟨by first | rfl | (simp [errW_none, errW_some] <;> rfl) | (simp [*, errW_none, errW_some] <;> rfl), by repeat (first | (with_reducible first | exact HB.out | apply below_alloc | apply pw_below_drewN | apply below_drew1) | exact HB.out)⟩
                                · rw [if_neg c29] at H
                                  have c29b0 : (t143.toList == a0.toList) = false := beq_eq_false_iff_ne.mpr c29
                                  have c29b1 : (t143.toList != a0.toList) = true := bne_iff_ne.mpr c29
                                  simp only [Option.some.injEq, Prod.mk.injEq] at H
                                  obtain ⟨rfl, rfl, rfl⟩ := H
                                  go_wp2_with (first | (go_at_call 12; (with_reducible refine (spec_l3Of.calls k2 x7_2 t140 true _ A22.out).mono ?_); rintro e w32 ⟨rfl, hb⟩; have n0_ := Aside0.mk (Kd.C_below (by repeat (first | (with_reducible exact HR138.out) | (with_reducible refine Kd.C_alloc ?_ _) | (with_reducible refine Kd.C_drewN ?_ _) | (with_reducible refine Kd.C_drew ?_) | exact HR138.out)) hb); have n1_ := Aside0.mk (below_step (by repeat (first | (with_reducible first | exact HB.out | apply below_alloc | apply pw_below_drewN | apply below_drew1) | exact HB.out)) hb); clear HR138; clear HB; have HR138 := n0_; have HB := n1_; clear n0_ n1_; (try clear hb); (try clear hb2); (try clear hk); (try clear hi)) | (go_at_call 16; (with_reducible refine (spec_l3Name.calls k2 ((rdOf ByteArray.empty t129 0).extract 11 ((wrap64 (((rdOf ByteArray.empty t129 0).size : Int) - 5)) : Int).toNat) true _ A24.out).mono ?_); rintro e w' ⟨rfl, ⟨nd, rfl⟩⟩; (try first | exact ⟨rfl, _, World.drewN_drewN _ _ _⟩ | exact ⟨rfl, _, Eq.trans (World.drewN_drewN _ _ _) (congrArg (World.drewN _) (Nat.add_assoc _ _ _))⟩)) | (go_at_call 17; (with_reducible refine (spec_l3Armor.calls k2 ((rdOf ByteArray.empty t129 0).extract 11 ((wrap64 (((rdOf ByteArray.empty t129 0).size : Int) - 5)) : Int).toNat) t140 t143 _ A28.out).mono ?_); rintro e w33 ⟨rfl, hb⟩; have n0_ := Aside0.mk (Kd.C_below (by repeat (first | (with_reducible exact HR138.out) | (with_reducible refine Kd.C_alloc ?_ _) | (with_reducible refine Kd.C_drewN ?_ _) | (with_reducible refine Kd.C_drew ?_) | exact HR138.out)) hb); have n1_ := Aside0.mk (below_step (by repeat (first | (with_reducible first | exact HB.out | apply below_alloc | apply pw_below_drewN | apply below_drew1) | exact HB.out)) hb); clear HR138; clear HB; have HR138 := n0_; have HB := n1_; clear n0_ n1_; (try clear hb); (try clear hb2); (try clear hk); (try clear hi)))
                                  repeat (go_quiet (first | (go_at_call 12; (with_reducible refine (spec_l3Of.calls k2 x7_2 t140 true _ A22.out).mono ?_); rintro e w32 ⟨rfl, hb⟩; have n0_ := Aside0.mk (Kd.C_below (by repeat (first | (with_reducible exact HR138.out) | (with_reducible refine Kd.C_alloc ?_ _) | (with_reducible refine Kd.C_drewN ?_ _) | (with_reducible refine Kd.C_drew ?_) | exact HR138.out)) hb); have n1_ := Aside0.mk (below_step (by repeat (first | (with_reducible first | exact HB.out | apply below_alloc | apply pw_below_drewN | apply below_drew1) | exact HB.out)) hb); clear HR138; clear HB; have HR138 := n0_; have HB := n1_; clear n0_ n1_; (try clear hb); (try clear hb2); (try clear hk); (try clear hi)) | (go_at_call 16; (with_reducible refine (spec_l3Name.calls k2 ((rdOf ByteArray.empty t129 0).extract 11 ((wrap64 (((rdOf ByteArray.empty t129 0).size : Int) - 5)) : Int).toNat) true _ A24.out).mono ?_); rintro e w' ⟨rfl, ⟨nd, rfl⟩⟩; (try first | exact ⟨rfl, _, World.drewN_drewN _ _ _⟩ | exact ⟨rfl, _, Eq.trans (World.drewN_drewN _ _ _) (congrArg (World.drewN _) (Nat.add_assoc _ _ _))⟩)) | (go_at_call 17; (with_reducible refine (spec_l3Armor.calls k2 ((rdOf ByteArray.empty t129 0).extract 11 ((wrap64 (((rdOf ByteArray.empty t129 0).size : Int) - 5)) : Int).toNat) t140 t143 _ A28.out).mono ?_); rintro e w33 ⟨rfl, hb⟩; have n0_ := Aside0.mk (Kd.C_below (by repeat (first | (with_reducible exact HR138.out) | (with_reducible refine Kd.C_alloc ?_ _) | (with_reducible refine Kd.C_drewN ?_ _) | (with_reducible refine Kd.C_drew ?_) | exact HR138.out)) hb); have n1_ := Aside0.mk (below_step (by repeat (first | (with_reducible first | exact HB.out | apply below_alloc | apply pw_below_drewN | apply below_drew1) | exact HB.out)) hb); clear HR138; clear HB; have HR138 := n0_; have HB := n1_; clear n0_ n1_; (try clear hb); (try clear hb2); (try clear hk); (try clear hi))); try go_wp2_with (first | (go_at_call 12; (with_reducible refine (spec_l3Of.calls k2 x7_2 t140 true _ A22.out).mono ?_); rintro e w32 ⟨rfl, hb⟩; have n0_ := Aside0.mk (Kd.C_below (by repeat (first | (with_reducible exact HR138.out) | (with_reducible refine Kd.C_alloc ?_ _) | (with_reducible refine Kd.C_drewN ?_ _) | (with_reducible refine Kd.C_drew ?_) | exact HR138.out)) hb); have n1_ := Aside0.mk (below_step (by repeat (first | (with_reducible first | exact HB.out | apply below_alloc | apply pw_below_drewN | apply below_drew1) | exact HB.out)) hb); clear HR138; clear HB; have HR138 := n0_; have HB := n1_; clear n0_ n1_; (try clear hb); (try clear hb2); (try clear hk); (try clear hi)) | (go_at_call 16; (with_reducible refine (spec_l3Name.calls k2 ((rdOf ByteArray.empty t129 0).extract 11 ((wrap64 (((rdOf ByteArray.empty t129 0).size : Int) - 5)) : Int).toNat) true _ A24.out).mono ?_); rintro e w' ⟨rfl, ⟨nd, rfl⟩⟩; (try first | exact ⟨rfl, _, World.drewN_drewN _ _ _⟩ | exact ⟨rfl, _, Eq.trans (World.drewN_drewN _ _ _) (congrArg (World.drewN _) (Nat.add_assoc _ _ _))⟩)) | (go_at_call 17; (with_reducible refine (spec_l3Armor.calls k2 ((rdOf ByteArray.empty t129 0).extract 11 ((wrap64 (((rdOf ByteArray.empty t129 0).size : Int) - 5)) : Int).toNat) t140 t143 _ A28.out).mono ?_); rintro e w33 ⟨rfl, hb⟩; have n0_ := Aside0.mk (Kd.C_below (by repeat (first | (with_reducible exact HR138.out) | (with_reducible refine Kd.C_alloc ?_ _) | (with_reducible refine Kd.C_drewN ?_ _) | (with_reducible refine Kd.C_drew ?_) | exact HR138.out)) hb); have n1_ := Aside0.mk (below_step (by repeat (first | (with_reducible first | exact HB.out | apply below_alloc | apply pw_below_drewN | apply below_drew1) | exact HB.out)) hb); clear HR138; clear HB; have HR138 := n0_; have HB := n1_; clear n0_ n1_; (try clear hb); (try clear hb2); (try clear hk); (try clear hi))))
                                  go_ret3
                                  exact ⟨by first | rfl | (simp [errW_none, errW_some] <;> rfl) | (simp [*, errW_none, errW_some] <;> rfl), by repeat (first | (with_reducible first | exact HB.out | apply below_alloc | apply pw_below_drewN | apply below_drew1) | exact HB.out)⟩
                            · replace c25 := Bool.eq_false_iff.mpr c25
                              subst c25
                              have H1 : (some ((⟨#[]⟩ : ByteArray), (⟨#[]⟩ : ByteArray), false)) = some (r1, r2, r3) := by rw [if_neg (show ¬ (false = true) by decide)] at H; exact H
                              clear H
                              have H := H1
                              clear H1
                              simp only [Option.some.injEq, Prod.mk.injEq] at H
                              obtain ⟨rfl, rfl, rfl⟩ := H
                              go_wp2_with (first | (go_at_call 12; (with_reducible refine (spec_l3Of.calls k2 x7_2 t140 true _ A22.out).mono ?_); rintro e w34 ⟨rfl, hb⟩; have n0_ := Aside0.mk (Kd.C_below (by repeat (first | (with_reducible exact HR138.out) | (with_reducible refine Kd.C_alloc ?_ _) | (with_reducible refine Kd.C_drewN ?_ _) | (with_reducible refine Kd.C_drew ?_) | exact HR138.out)) hb); have n1_ := Aside0.mk (below_step (by repeat (first | (with_reducible first | exact HB.out | apply below_alloc | apply pw_below_drewN | apply below_drew1) | exact HB.out)) hb); clear HR138; clear HB; have HR138 := n0_; have HB := n1_; clear n0_ n1_; (try clear hb); (try clear hb2); (try clear hk); (try clear hi)) | (go_at_call 16; (with_reducible refine (spec_l3Name.calls k2 ((rdOf ByteArray.empty t129 0).extract 11 ((wrap64 (((rdOf ByteArray.empty t129 0).size : Int) - 5)) : Int).toNat) false _ A24.out).mono ?_); rintro e w' ⟨rfl, ⟨nd, rfl⟩⟩; (try first | exact ⟨rfl, _, World.drewN_drewN _ _ _⟩ | exact ⟨rfl, _, Eq.trans (World.drewN_drewN _ _ _) (congrArg (World.drewN _) (Nat.add_assoc _ _ _))⟩)))
                              repeat (go_quiet (first | (go_at_call 12; (with_reducible refine (spec_l3Of.calls k2 x7_2 t140 true _ A22.out).mono ?_); rintro e w34 ⟨rfl, hb⟩; have n0_ := Aside0.mk (Kd.C_below (by repeat (first | (with_reducible exact HR138.out) | (with_reducible refine Kd.C_alloc ?_ _) | (with_reducible refine Kd.C_drewN ?_ _) | (with_reducible refine Kd.C_drew ?_) | exact HR138.out)) hb); have n1_ := Aside0.mk (below_step (by repeat (first | (with_reducible first | exact HB.out | apply below_alloc | apply pw_below_drewN | apply below_drew1) | exact HB.out)) hb); clear HR138; clear HB; have HR138 := n0_; have HB := n1_; clear n0_ n1_; (try clear hb); (try clear hb2); (try clear hk); (try clear hi)) | (go_at_call 16; (with_reducible refine (spec_l3Name.calls k2 ((rdOf ByteArray.empty t129 0).extract 11 ((wrap64 (((rdOf ByteArray.empty t129 0).size : Int) - 5)) : Int).toNat) false _ A24.out).mono ?_); rintro e w' ⟨rfl, ⟨nd, rfl⟩⟩; (try first | exact ⟨rfl, _, World.drewN_drewN _ _ _⟩ | exact ⟨rfl, _, Eq.trans (World.drewN_drewN _ _ _) (congrArg (World.drewN _) (Nat.add_assoc _ _ _))⟩))); try go_wp2_with (first | (go_at_call 12; (with_reducible refine (spec_l3Of.calls k2 x7_2 t140 true _ A22.out).mono ?_); rintro e w34 ⟨rfl, hb⟩; have n0_ := Aside0.mk (Kd.C_below (by repeat (first | (with_reducible exact HR138.out) | (with_reducible refine Kd.C_alloc ?_ _) | (with_reducible refine Kd.C_drewN ?_ _) | (with_reducible refine Kd.C_drew ?_) | exact HR138.out)) hb); have n1_ := Aside0.mk (below_step (by repeat (first | (with_reducible first | exact HB.out | apply below_alloc | apply pw_below_drewN | apply below_drew1) | exact HB.out)) hb); clear HR138; clear HB; have HR138 := n0_; have HB := n1_; clear n0_ n1_; (try clear hb); (try clear hb2); (try clear hk); (try clear hi)) | (go_at_call 16; (with_reducible refine (spec_l3Name.calls k2 ((rdOf ByteArray.empty t129 0).extract 11 ((wrap64 (((rdOf ByteArray.empty t129 0).size : Int) - 5)) : Int).toNat) false _ A24.out).mono ?_); rintro e w' ⟨rfl, ⟨nd, rfl⟩⟩; (try first | exact ⟨rfl, _, World.drewN_drewN _ _ _⟩ | exact ⟨rfl, _, Eq.trans (World.drewN_drewN _ _ _) (congrArg (World.drewN _) (Nat.add_assoc _ _ _))⟩))))
                              go_ret3
                              exact ⟨by first | rfl | (simp [errW_none, errW_some] <;> rfl) | (simp [*, errW_none, errW_some] <;> rfl), by repeat (first | (with_reducible first | exact HB.out | apply below_alloc | apply pw_below_drewN | apply below_drew1) | exact HB.out)⟩
                          · replace c23 := Bool.eq_false_iff.mpr c23
                            subst c23
                            have H1 : (some ((⟨#[]⟩ : ByteArray), (⟨#[]⟩ : ByteArray), false)) = some (r1, r2, r3) := by rw [if_neg (show ¬ (false = true) by decide)] at H; exact H
                            clear H
                            have H := H1
                            clear H1
                            simp only [Option.some.injEq, Prod.mk.injEq] at H
                            obtain ⟨rfl, rfl, rfl⟩ := H
                            go_wp2_with (first | (go_at_call 12; (with_reducible refine (spec_l3Of.calls k2 x7_2 t140 false _ A22.out).mono ?_); rintro e w35 ⟨rfl, hb⟩; have n0_ := Aside0.mk (Kd.C_below (by repeat (first | (with_reducible exact HR138.out) | (with_reducible refine Kd.C_alloc ?_ _) | (with_reducible refine Kd.C_drewN ?_ _) | (with_reducible refine Kd.C_drew ?_) | exact HR138.out)) hb); have n1_ := Aside0.mk (below_step (by repeat (first | (with_reducible first | exact HB.out | apply below_alloc | apply pw_below_drewN | apply below_drew1) | exact HB.out)) hb); clear HR138; clear HB; have HR138 := n0_; have HB := n1_; clear n0_ n1_; (try clear hb); (try clear hb2); (try clear hk); (try clear hi)))
                            repeat (go_quiet (first | (go_at_call 12; (with_reducible refine (spec_l3Of.calls k2 x7_2 t140 false _ A22.out).mono ?_); rintro e w35 ⟨rfl, hb⟩; have n0_ := Aside0.mk (Kd.C_below (by repeat (first | (with_reducible exact HR138.out) | (with_reducible refine Kd.C_alloc ?_ _) | (with_reducible refine Kd.C_drewN ?_ _) | (with_reducible refine Kd.C_drew ?_) | exact HR138.out)) hb); have n1_ := Aside0.mk (below_step (by repeat (first | (with_reducible first | exact HB.out | apply below_alloc | apply pw_below_drewN | apply below_drew1) | exact HB.out)) hb); clear HR138; clear HB; have HR138 := n0_; have HB := n1_; clear n0_ n1_; (try clear hb); (try clear hb2); (try clear hk); (try clear hi))); try go_wp2_with (first | (go_at_call 12; (with_reducible refine (spec_l3Of.calls k2 x7_2 t140 false _ A22.out).mono ?_); rintro e w35 ⟨rfl, hb⟩; have n0_ := Aside0.mk (Kd.C_below (by repeat (first | (with_reducible exact HR138.out) | (with_reducible refine Kd.C_alloc ?_ _) | (with_reducible refine Kd.C_drewN ?_ _) | (with_reducible refine Kd.C_drew ?_) | exact HR138.out)) hb); have n1_ := Aside0.mk (below_step (by repeat (first | (with_reducible first | exact HB.out | apply below_alloc | apply pw_below_drewN | apply below_drew1) | exact HB.out)) hb); clear HR138; clear HB; have HR138 := n0_; have HB := n1_; clear n0_ n1_; (try clear hb); (try clear hb2); (try clear hk); (try clear hi))))
                            go_ret3
                            exact ⟨by first | rfl | (simp [errW_none, errW_some] <;> rfl) | (simp [*, errW_none, errW_some] <;> rfl), by repeat (first | (with_reducible first | exact HB.out | apply below_alloc | apply pw_below_drewN | apply below_drew1) | exact HB.out)⟩
                  · rw [if_neg c15] at H
                    exact absurd H (by simp)
                · rw [if_neg c14] at H
                  exact absurd H (by simp)
              · rw [if_neg c13] at H
                exact absurd H (by simp)
            · rw [if_neg c12] at H
              exact absurd H (by simp)
          · rw [if_neg c11] at H
            exact absurd H (by simp)

/-! ### strings_TrimRight: function 25 -/
/-- a string without its last signs '=' -/
def trimR (s : ByteArray) : ByteArray := ⟨(Lib.trimRightB s.data.toList 61).toArray⟩
def strings_TrimRight.f (a0 a1 : ByteArray) : Option ByteArray := if a1.data.toList = [61] ∧ a0.size ≤ 1000000 then some (trimR a0) else none
theorem strings_TrimRight.calls (a0 a1 r : ByteArray) (w : World) (h : strings_TrimRight.f a0 a1 = some r) :
    Calls Tryd.prog 25 #[.string a0, .string a1] w fun e w' => e = .returned (.string r) ∧ Drawn0 w w' := by
  unfold strings_TrimRight.f at h
  by_cases hc : a1.data.toList = [61] ∧ a0.size ≤ 1000000
  · rw [if_pos hc] at h
    obtain rfl := Option.some.inj h
    obtain ⟨h1, h2⟩ := hc
    obtain rfl : a1 = ⟨#[61]⟩ := by
      cases a1
      congr 1
      exact Array.toList_inj.mp h1
    refine (Any.strings_TrimRight_one lays162 a0 61 (by decide) w (by omega)).mono ?_
    rintro e w' ⟨rfl, rfl⟩
    exact ⟨rfl, Drawn0.refl _⟩
  · rw [if_neg hc] at h
    cases h


/-! ### strings_IndexByte: function 26 -/
def strings_IndexByte.f (a0 : ByteArray) (a1 : Int) : Option Int := some (Lib.indexByte a0.data.toList a1.toNat.toUInt8)
theorem strings_IndexByte.calls (a0 : ByteArray) (a1 r : Int) (w : World) (h : strings_IndexByte.f a0 a1 = some r) :
    Calls Tryd.prog 26 #[.string a0, .int .u8 a1] w fun e w' => e = .returned (.int .i64 r) ∧ Drawn0 w w' := by
  unfold strings_IndexByte.f at h
  obtain rfl := Option.some.inj h
  refine (Any.strings_IndexByte lays137 a0 a1 w).mono ?_
  rintro e w' ⟨rfl, rfl⟩
  exact ⟨rfl, Drawn0.refl _⟩


/-! ### impl_signsOf: function 27 -/
/-- the alphabet's letter -/
def sgT (j : Nat) : UInt8 := UInt8.ofNat (if j < 26 then 65 + j else if j < 52 then 71 + j else if j < 62 then j - 4 else if j = 62 then 43 else 47)
/-- the first i bytes of a group of three, as a number: a byte that is not there counts 0 -/
def sgN (g : List UInt8) : Nat → Nat
  | 0 => 0
  | i + 1 => sgN g i * 256 + (if i < g.length then (g.getD i 0).toNat else 0)
/-- the i-th sign of a group -/
def sgC (g : List UInt8) (i : Nat) : UInt8 := if g.length < i then 61 else sgT (sgN g 3 / 2 ^ (18 - 6 * i) % 64)
def sgG (g : List UInt8) : List UInt8 := [sgC g 0, sgC g 1, sgC g 2, sgC g 3]
def sgL : Nat → List UInt8 → List UInt8
  | 0, _ => []
  | k + 1, l => if l = [] then [] else sgG (l.take 3) ++ sgL k (l.drop 3)
/-- the base64 encoding of bytes -/
def sgE (l : List UInt8) : List UInt8 := sgL l.length l
def impl_signsOf.f (a0 : ByteArray) : Option (ByteArray) := if a0.size ≤ 1000000 then some (⟨(sgE a0.data.toList).toArray⟩ : ByteArray) else none

theorem sgN_lt (g : List UInt8) : ∀ i, sgN g i < 256 ^ i
  | 0 => by simp [sgN]
  | i + 1 => by
    have h := sgN_lt g i
    have hb := (g.getD i 0).toNat_lt
    have e : 256 ^ (i + 1) = 256 ^ i * 256 := Nat.pow_succ 256 i
    rw [sgN, e]
    split <;> omega
theorem sgL_more : ∀ k l, l.length ≤ k → sgL k l = sgL l.length l := by
  intro k
  induction k using Nat.strongRecOn with
  | _ k ih =>
    intro l hl
    match k, l with
    | 0, [] => rfl
    | 0, a :: t => simp at hl
    | k + 1, [] => simp [sgL]
    | k + 1, a :: t =>
      simp only [List.length_cons] at hl ⊢
      rw [sgL, sgL, if_neg (by simp), if_neg (by simp)]
      congr 1
      have h1 : ((a :: t).drop 3).length ≤ t.length := by simp
      rw [ih k (by omega) _ (by omega), ih t.length (by omega) _ h1]
theorem sgE_step (l : List UInt8) (h : l ≠ []) : sgE l = sgG (l.take 3) ++ sgE (l.drop 3) := by
  unfold sgE
  match l, h with
  | a :: t, _ =>
    rw [List.length_cons, sgL, if_neg (by simp)]
    congr 1
    exact sgL_more _ _ (by simp)
theorem sgE_length (l : List UInt8) : (sgE l).length ≤ 4 * l.length := by
  unfold sgE
  have h : ∀ k (l : List UInt8), (sgL k l).length ≤ 4 * k := by
    intro k
    induction k with
    | zero => intro l; simp [sgL]
    | succ k ih =>
      intro l
      rw [sgL]
      split
      · simp
      · simp [sgG]
        have := ih (l.drop 3)
        omega
  exact h _ _
theorem sg_letter : ∀ j : Fin 64, bt (⟨#[65, 66, 67, 68, 69, 70, 71, 72, 73, 74, 75, 76, 77, 78, 79, 80, 81, 82, 83, 84, 85, 86, 87, 88, 89, 90, 97, 98, 99, 100, 101, 102, 103, 104, 105, 106, 107, 108, 109, 110, 111, 112, 113, 114, 115, 116, 117, 118, 119, 120, 121, 122, 48, 49, 50, 51, 52, 53, 54, 55, 56, 57, 43, 47]⟩ : ByteArray) (j.val : Int) = ((sgT j.val).toNat : Int) := by decide +kernel
theorem sg_letter_at (x : Int) (h0 : 0 ≤ x) (h1 : x < 64) : bt (⟨#[65, 66, 67, 68, 69, 70, 71, 72, 73, 74, 75, 76, 77, 78, 79, 80, 81, 82, 83, 84, 85, 86, 87, 88, 89, 90, 97, 98, 99, 100, 101, 102, 103, 104, 105, 106, 107, 108, 109, 110, 111, 112, 113, 114, 115, 116, 117, 118, 119, 120, 121, 122, 48, 49, 50, 51, 52, 53, 54, 55, 56, 57, 43, 47]⟩ : ByteArray) x = ((sgT x.toNat).toNat : Int) := by
  have h := sg_letter ⟨x.toNat, by omega⟩
  have e : ((x.toNat : Nat) : Int) = x := by omega
  simpa only [e] using h
theorem sg_write_byte (B b : Nat) (bs : List Value) (c : Int) (w : World) (h : Lib.IsBuilder 55 5 B b bs w) (hlen : bs.length + 1 ≤ 140737488355328) (hBw : B ≤ w.heap.size) :
    Calls Tryd.prog 43 #[.pointer (some ⟨b, 0, none⟩), .int .u8 c] w fun e w' => e = .returned .nilIface ∧ (Lib.BuilderAt 55 5 B b (.pointer (some ⟨b, 0, none⟩)) (bs ++ [.int .u8 c]) w' ∧ Below B w w') :=
  Any.Builder_WriteByte lays167 builder167 B b bs c w h hlen hBw
theorem sg_builder_string (B b : Nat) (l : List UInt8) (w : World) (h : Lib.IsBuilder 55 5 B b (Lib.byteCells l) w) (hBw : B ≤ w.heap.size) :
    Calls Tryd.prog 44 #[.pointer (some ⟨b, 0, none⟩)] w fun e w' => e = .returned (.string ⟨l.toArray⟩) ∧ Below B w w' :=
  Any.Builder_String_any lays169 builder169 B b l w h hBw
theorem sg_wraps (n : Int) (h0 : 0 ≤ n) (h1 : n < 2 ^ 40) : IntKind.i64.wrap n = n := by
  rw [IntKind.wrap_i64]
  have : (2 : Int) ^ 40 = 1099511627776 := by decide
  omega
theorem sg_or (n b : Int) (h0 : 0 ≤ n) (h1 : n < 4294967296) (hb0 : 0 ≤ b) (hb1 : b < 256) : Go.bits .or .i64 (n * 256) b = n * 256 + b := by
  have l40 : (2 : Int) ^ 40 = 1099511627776 := by decide
  exact bits_join .i64 40 (by decide) sg_wraps 8 (n * 256) b (by omega) (by omega) (by omega) hb0 (by omega) (by omega)
theorem sg_and (x : Int) (h0 : 0 ≤ x) (h1 : x < 1000000000) : Go.bits .and .i64 x 63 = x % 64 := by
  have l40 : (2 : Int) ^ 40 = 1099511627776 := by decide
  exact bits_mask .i64 40 (by decide) sg_wraps 6 (by decide) x h0 (by omega)
theorem sg_bt (g : ByteArray) (i : Nat) (h : i < g.size) : bt g (i : Int) = ((g.data.toList.getD i 0).toNat : Int) := by
  have hl : i < g.data.toList.length := by rw [← Lib.size_eq]; exact h
  unfold bt
  simp only [Int.toNat_natCast]
  rw [dif_pos h, List.getD_eq_getElem?_getD, List.getElem?_eq_getElem hl]
  simp
  rfl
theorem sg_take (g : List UInt8) (j : Nat) (h : j < 4) : (sgG g).take (j + 1) = (sgG g).take j ++ [sgC g j] := by
  match j, h with
  | 0, _ => rfl
  | 1, _ => rfl
  | 2, _ => rfl
  | 3, _ => rfl
set_option maxHeartbeats 2000000 in
theorem impl_signsOf.calls (a0 : ByteArray) (r : ByteArray) (w : World) (h : impl_signsOf.f a0 = some r) :
    Calls Tryd.prog 27 #[.string a0] w fun e w' => e = .returned (.string r) ∧ Below w.heap.size w w' := by
  have hsz : a0.size ≤ 1000000 := by
    unfold impl_signsOf.f at h
    split at h
    · assumption
    · cases h
  have hr : r = (⟨(sgE a0.data.toList).toArray⟩ : ByteArray) := by
    unfold impl_signsOf.f at h
    rw [if_pos hsz] at h
    exact (Option.some.inj h).symm
  clear h
  have Hr := Aside0.mk hr
  clear hr
  have h0 := Aside0.mk (Lib.fresh_isBuilder 55 5 w)
  have b0 := Aside0.mk ((Below.refl _ w).alloc (Nat.le_refl _) (.cells #[.pointer none, .slice none 0 0] 55))
  go_enter Tryd.func27, Tryd.ntmps27
  go_wp2
  go_loopg [0] (a0.size) (fun kq v0 w' => ∃ (x : ByteArray) (acc : List UInt8), v0 = .string x ∧ Aside0 (x.size = kq) ∧ Aside0 (acc ++ sgE x.data.toList = sgE a0.data.toList) ∧ Aside0 (acc.length + 4 * x.size ≤ 4000000) ∧ Aside0 (Lib.IsBuilder 55 5 w.heap.size w.heap.size (Lib.byteCells acc) w') ∧ Aside0 (Below w.heap.size w w'))
  case atStart =>
    exact ⟨a0, [], rfl, ⟨rfl⟩, ⟨rfl⟩, ⟨by simp; omega⟩, ⟨by simpa [Lib.byteCells] using h0.out⟩, b0⟩
  case round =>
    clear h0 b0
    obtain ⟨x, acc, rfl, hkq, hacc, hlen, hI, hB⟩ := hrel
    by_cases hne : x.toList = []
    · have c1 : (x.toList == ([] : List UInt8)) = true := beq_iff_eq.mpr hne
      have c2 : (x.toList != ([] : List UInt8)) = false := bne_eq_false_iff_eq.mpr hne
      go_wp2_with fail
      refine (sg_builder_string w.heap.size w.heap.size _ _ hI.out hB.out.size).mono ?_
      rintro e w1 ⟨rfl, b1⟩
      have B1 := Aside0.mk (hB.out.trans b1)
      clear b1
      go_wp2
      go_ret
      refine ⟨?_, B1.out⟩
      have he := hacc.out
      rw [Lib.toList_data] at hne
      rw [hne] at he
      have he2 : acc = sgE a0.data.toList := by simpa [sgE, sgL] using he
      rw [Hr.out, ← he2]
      rfl
    · have c1 : (x.toList == ([] : List UInt8)) = false := beq_eq_false_iff_ne.mpr hne
      have c2 : (x.toList != ([] : List UInt8)) = true := bne_iff_ne.mpr hne
      have hpos : 0 < x.size := by
        rw [Lib.size_eq]
        rw [Lib.toList_data] at hne
        exact List.length_pos_iff.mpr hne
      obtain ⟨m, hm⟩ : ∃ m : Nat, (if (x.size : Int) < 3 then (x.size : Int) else 3) = (m : Int) := ⟨min 3 x.size, by split <;> omega⟩
      have hm1 : m ≤ x.size ∧ m ≤ 3 ∧ 1 ≤ m ∧ (m = 3 ∨ m = x.size) := by split at hm <;> omega
      have Hm := Aside0.mk hm1
      have hmx : m ≤ x.size := hm1.1
      clear hm1
      have p1 := eq_true (show (0 : Int) ≤ (m : Int) by omega)
      have p2 := eq_true (show (m : Int) ≤ (x.size : Int) by omega)
      obtain ⟨g, hg⟩ : ∃ g, x.extract 0 m = g := ⟨_, rfl⟩
      have hgs : g.size = m := by rw [← hg, ByteArray.size_extract]; omega
      have Hg := Aside0.mk hg
      have Hgs := Aside0.mk hgs
      have HM := Aside0.mk hm
      go_wp2_with fail
      obtain ⟨wo, hwo⟩ : ∃ wo : World, wo = wr := ⟨_, rfl⟩
      rw [← hwo] at hI hB ⊢
      clear hwo hg hm p1 p2
      obtain ⟨gq, hgq⟩ : ∃ q : Nat, q = gk := ⟨_, rfl⟩
      go_loopg [5, 20] 3 (fun kq v5 v20 w' => ∃ (i : Nat) (n : Int), v20 = .int .i64 (i : Int) ∧ v5 = .int .i64 n ∧ Aside0 (n = (sgN g.data.toList i : Int)) ∧ Aside0 (i + kq = 3) ∧ w' = wo)
      case atStart =>
        exact ⟨0, 0, rfl, rfl, ⟨rfl⟩, ⟨rfl⟩, rfl⟩
      case round =>
        obtain ⟨i, n, rfl, rfl, hn, hik, rfl⟩ := hrel
        have hgl : g.data.toList.length = m := by rw [← Lib.size_eq]; exact Hgs.out
        have hnb := sgN_lt g.data.toList i
        by_cases h3 : i < 3
        · have d1 : decide ((i : Int) < 3) = true := decide_eq_true (by omega)
          have n0 : 0 ≤ n := by have := hn.out; omega
          have n1 : n < 65536 := by
            have := hn.out
            have e : 256 ^ i ≤ 256 ^ 2 := Nat.pow_le_pow_right (by omega) (by omega)
            have e2 : 256 ^ 2 = 65536 := by decide
            omega
          clear hnb
          have HL := Aside0.mk hgl
          clear hgl
          by_cases him : i < m
          · have d2 : decide ((i : Int) < (m : Int)) = true := decide_eq_true (by omega)
            have hb0 := (bt_range g (i : Int)).1
            have hb1 := (bt_range g (i : Int)).2
            have hx4 : ∀ h : i < m, ((g[i]'(by rw [Hgs.out]; exact h)).toNat : Int) = bt g (i : Int) := fun h => by unfold bt; simp only [Int.toNat_natCast]; rw [dif_pos (by rw [Hgs.out]; exact h)]
            go_wp2_with fail
            go_roundg (gk - 1)
            case measure => have := hik.out; omega
            case rel =>
              refine ⟨i + 1, _, by simp, rfl, ⟨?_⟩, ⟨by have := hik.out; omega⟩, rfl⟩
              rw [sg_or n _ n0 (by omega) hb0 (by omega), hn.out, sgN, if_pos (by have := HL.out; omega), sg_bt g i (by have := Hgs.out; omega)]
              simp
          · have d2 : decide ((i : Int) < (m : Int)) = false := decide_eq_false (by omega)
            go_wp2_with fail
            go_roundg (gk - 1)
            case measure => have := hik.out; omega
            case rel =>
              refine ⟨i + 1, _, by simp, rfl, ⟨?_⟩, ⟨by have := hik.out; omega⟩, rfl⟩
              rw [hn.out, sgN, if_neg (by have := HL.out; omega)]
              simp
        · have hi3 : i = 3 := by have := hik.out; omega
          have d1 : decide ((i : Int) < 3) = false := decide_eq_false (by omega)
          have n0 : 0 ≤ n := by have := hn.out; omega
          have n1 : n < 16777216 := by
            have := hn.out
            rw [hi3] at hnb
            rw [hi3] at this
            have e2 : 256 ^ 3 = 16777216 := by decide
            omega
          have HN := Aside0.mk (show n = (sgN g.data.toList 3 : Int) by rw [hn.out, hi3])
          have HL := Aside0.mk hgl
          clear hgl hnb hn hi3
          go_wp2_with fail
          obtain ⟨wp, hwp⟩ : ∃ wp : World, wp = wr := ⟨_, rfl⟩
          rw [← hwp] at hI hB ⊢
          clear hwp hik
          go_loopg [36] 4 (fun kq v36 w' => ∃ (j : Nat), v36 = .int .i64 (j : Int) ∧ Aside0 (j + kq = 4) ∧ Aside0 (Lib.IsBuilder 55 5 w.heap.size w.heap.size (Lib.byteCells (acc ++ (sgG g.data.toList).take j)) w') ∧ Aside0 (Below w.heap.size w w'))
          case atStart => exact ⟨0, rfl, ⟨rfl⟩, ⟨by simpa using hI.out⟩, hB⟩
          case round =>
            clear hI hB
            obtain ⟨j, rfl, hjk, hI, hB⟩ := hrel
            by_cases h4 : j < 4
            · have d2 : decide ((j : Int) < 4) = true := decide_eq_true (by omega)
              have hlen2 : (Lib.byteCells (acc ++ (sgG g.data.toList).take j)).length ≤ 5000000 := by
                have := hlen.out
                simp [Lib.byteCells, sgG]
                omega
              have HL2 := Aside0.mk hlen2
              clear hlen2
              by_cases hmj : m < j
              · have d3 : decide ((m : Int) < (j : Int)) = true := decide_eq_true (by omega)
                go_wp2_with fail
                refine (sg_write_byte w.heap.size w.heap.size _ _ _ hI.out (by have := HL2.out; omega) hB.out.size).mono ?_
                rintro e w1 ⟨rfl, h1, b1⟩
                have I1 := Aside0.mk (show Lib.IsBuilder _ _ _ _ _ _ from Or.inr h1)
                have B1 := Aside0.mk (hB.out.trans b1)
                clear h1 b1
                go_wp2
                go_roundg (gk - 1)
                case measure => have := hjk.out; omega
                case rel =>
                  refine ⟨j + 1, by simp, ⟨by have := hjk.out; omega⟩, ⟨?_⟩, B1⟩
                  have hc : sgC g.data.toList j = 61 := by unfold sgC; rw [if_pos (by have := HL.out; omega)]
                  rw [sg_take g.data.toList j h4, hc, ← List.append_assoc]
                  have e : Lib.byteCells (acc ++ (sgG g.data.toList).take j ++ [61]) = Lib.byteCells (acc ++ (sgG g.data.toList).take j) ++ [.int .u8 61] := by simp [Lib.byteCells]
                  rw [e]
                  exact I1.out
              · have d3 : decide ((m : Int) < (j : Int)) = false := decide_eq_false (by omega)
                obtain ⟨q, hq⟩ : ∃ q : Int, Go.bits .and .i64 (n / 2 ^ (18 - 6 * j)) 63 = q := ⟨_, rfl⟩
                have hqv : q = ((sgN g.data.toList 3 / 2 ^ (18 - 6 * j) % 64 : Nat) : Int) := by
                  rw [← hq, HN.out]
                  have hlt : sgN g.data.toList 3 / 2 ^ (18 - 6 * j) ≤ sgN g.data.toList 3 := Nat.div_le_self _ _
                  have hcast : ((sgN g.data.toList 3 : Nat) : Int) / 2 ^ (18 - 6 * j) = ((sgN g.data.toList 3 / 2 ^ (18 - 6 * j) : Nat) : Int) := by simp
                  have hN := HN.out
                  obtain ⟨z, hz⟩ : ∃ z : Nat, sgN g.data.toList 3 / 2 ^ (18 - 6 * j) = z := ⟨_, rfl⟩
                  rw [hz] at hlt hcast ⊢
                  rw [hcast, sg_and _ (by omega) (by omega)]
                  omega
                have r1 : 0 ≤ q ∧ q < 64 := by omega
                have hx8 := (fun h => (bt_at (⟨#[65, 66, 67, 68, 69, 70, 71, 72, 73, 74, 75, 76, 77, 78, 79, 80, 81, 82, 83, 84, 85, 86, 87, 88, 89, 90, 97, 98, 99, 100, 101, 102, 103, 104, 105, 106, 107, 108, 109, 110, 111, 112, 113, 114, 115, 116, 117, 118, 119, 120, 121, 122, 48, 49, 50, 51, 52, 53, 54, 55, 56, 57, 43, 47]⟩ : ByteArray) q h).trans (sg_letter_at q r1.1 r1.2))
                have p8 := eq_true r1.1
                have q8 := eq_true r1.2
                have HQ := Aside0.mk hqv
                clear r1 hqv
                go_wp2_with fail
                refine (sg_write_byte w.heap.size w.heap.size _ _ _ hI.out (by have := HL2.out; omega) hB.out.size).mono ?_
                rintro e w1 ⟨rfl, h1, b1⟩
                have I1 := Aside0.mk (show Lib.IsBuilder _ _ _ _ _ _ from Or.inr h1)
                have B1 := Aside0.mk (hB.out.trans b1)
                clear h1 b1
                go_wp2
                go_roundg (gk - 1)
                case measure => have := hjk.out; omega
                case rel =>
                  refine ⟨j + 1, by simp, ⟨by have := hjk.out; omega⟩, ⟨?_⟩, B1⟩
                  have hqt : q.toNat = sgN g.data.toList 3 / 2 ^ (18 - 6 * j) % 64 := by have := HQ.out; omega
                  have hc : sgC g.data.toList j = sgT q.toNat := by unfold sgC; rw [if_neg (by have := HL.out; omega), hqt]
                  rw [sg_take g.data.toList j h4, hc, ← List.append_assoc]
                  have e : Lib.byteCells (acc ++ (sgG g.data.toList).take j ++ [sgT q.toNat]) = Lib.byteCells (acc ++ (sgG g.data.toList).take j) ++ [.int .u8 ((sgT q.toNat).toNat : Int)] := by simp [Lib.byteCells]
                  rw [e]
                  exact I1.out
            · have d2 : decide ((j : Int) < 4) = false := decide_eq_false (by omega)
              have hm := HM.out
              have p1 := eq_true (show (0 : Int) ≤ (m : Int) by omega)
              have p2 := eq_true (show (m : Int) ≤ (x.size : Int) by omega)
              go_wp2_with fail
              have hxs : (x.extract m x.size).size = x.size - m := by rw [ByteArray.size_extract]; omega
              have hm1 := Hm.out
              go_roundg (x.size - m)
              case measure => have := hkq.out; omega
              case rel =>
                have hxl := Lib.size_eq x
                have hlx : x.data.toList ≠ [] := by intro h0; rw [h0] at hxl; have hx0 : x.size = 0 := hxl; omega
                have hstep := sgE_step x.data.toList hlx
                have hgd : g.data.toList = x.data.toList.take 3 := by
                  rw [← Hg.out, Lib.extract_data, List.drop_zero, Nat.sub_zero]
                  rcases hm1.2.2.2 with h5 | h5
                  · rw [h5]
                  · rw [List.take_of_length_le (by omega), List.take_of_length_le (by omega)]
                have hdr : (x.extract m x.size).data.toList = x.data.toList.drop 3 := by
                  rw [Lib.extract_data, List.take_of_length_le (by rw [List.length_drop]; omega)]
                  rcases hm1.2.2.2 with h5 | h5
                  · rw [h5]
                  · rw [List.drop_eq_nil_of_le (by omega), List.drop_eq_nil_of_le (by omega)]
                refine ⟨x.extract m x.size, acc ++ sgG g.data.toList, rfl, ⟨hxs⟩, ⟨?_⟩, ⟨?_⟩, ⟨?_⟩, hB⟩
                · rw [List.append_assoc, hdr, hgd, ← hstep]
                  exact hacc.out
                · have := hlen.out
                  rw [hxs, List.length_append]
                  have e4 : (sgG g.data.toList).length = 4 := rfl
                  omega
                · have hj4 : j = 4 := by have := hjk.out; omega
                  have hI' := hI.out
                  rw [hj4] at hI'
                  exact hI'


end Go.Proofs.YtmajmplhojlhbaaDoor.SFnExactOfArmor
