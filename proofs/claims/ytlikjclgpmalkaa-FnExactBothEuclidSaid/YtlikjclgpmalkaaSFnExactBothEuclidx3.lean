-- Written by sprint.py, a program of this session's, over the kit's print. Not trusted: Lean checks it.
import Derived.Test.YtlikjclgpmalkaaSFnExactBothEuclidx0
import Derived.Test.YtlikjclgpmalkaaSFnExactBothEuclidx1
import Derived.Test.YtlikjclgpmalkaaSFnExactBothEuclidx2
namespace Go.Proofs.Ytlikjclgpmalkaa.SFnExactBothEuclid
open Go.RowKit Go.Proofs.YtlikjclgpmalkaaW.PrintWords Go.Proofs.YtlikjclgpmalkaaW.PrintLast Go.Proofs.YtlikjclgpmalkaaW.PrintMore
attribute [local go_sem] max2_int min2_int max_two min_two max_three min_three max_four min_four   -- for this text's walks alone
set_option linter.unusedVariables false
set_option linter.unusedSimpArgs false

/-! ### impl_BothEuclid: function 37 -/
theorem be_within (a lo hi : Int) (v : Bool) (w : World) (h : decide (lo ≤ a ∧ a ≤ hi) = v) :
    Calls Try.prog 42 #[.int .i64 a, .int .i64 lo, .int .i64 hi] w fun e w' => e = .returned (.bool v) ∧ Drawn0 w w' := by
  have e : impl_within.f a lo hi = some v := by
    rw [← h]
    unfold impl_within.f
    by_cases h : a ≥ lo
    · rw [if_pos h]; congr 1; simp; omega
    · rw [if_neg h]; congr 1; simp; omega
  exact impl_within.calls a lo hi v w e
def beOk (a b : Int) : Bool := decide (0 ≤ a ∧ a ≤ 1000000) && (decide (0 ≤ b ∧ b ≤ 1000000) && !(decide (a = 0) && decide (b = 0)))
def impl_BothEuclid.l0 : Nat → Int → Int → Int → Int → Int → Int → Option (Int × Int × Int × Bool)
  | 0, _, _, _, _, _, _ => none
  | k + 1, f0, f1, f2, s0, s1, s2 =>
    if s0 = 0 then some (f0, f1, f2, true)
    else if (0 ≤ f0 ∧ f0 ≤ 1000000) ∧ (0 ≤ s0 ∧ s0 ≤ 1000000) then
      impl_BothEuclid.l0 k s0 s1 s2 (wrap64 (f0 - wrap64 (f0 / s0 * s0))) (wrap64 (f1 - wrap64 (f0 / s0 * s1))) (wrap64 (f2 - wrap64 (f0 / s0 * s2)))
    else none
def impl_BothEuclid.f (k : Nat) (a b : Int) : Option (Int × Int × Int × Bool) :=
  if beOk a b = true then impl_BothEuclid.l0 k a 1 0 b 0 1 else some (0, 0, 0, false)
theorem impl_BothEuclid.mono_l : ∀ k f0 f1 f2 s0 s1 s2, LeO (impl_BothEuclid.l0 k f0 f1 f2 s0 s1 s2) (impl_BothEuclid.l0 (k + 1) f0 f1 f2 s0 s1 s2)
  | 0, _, _, _, _, _, _ => fun r h => by simp [impl_BothEuclid.l0] at h
  | k + 1, f0, f1, f2, s0, s1, s2 => by
    unfold impl_BothEuclid.l0
    exact LeO.ite (LeO.refl _) (LeO.ite (impl_BothEuclid.mono_l k _ _ _ _ _ _) (LeO.none _))
theorem impl_BothEuclid.mono : ∀ a0 a1 k, LeO (impl_BothEuclid.f k a0 a1) (impl_BothEuclid.f (k + 1) a0 a1) := by
  intro a b k
  unfold impl_BothEuclid.f
  exact LeO.ite (impl_BothEuclid.mono_l k _ _ _ _ _ _) (LeO.refl _)
section
variable {P : Program} {ops : Array Oper} {rest : List Oper} {a : Act} {Q : Exit → Act → World → Prop}
theorem gen_w {W : World} (P1 : World → Prop) (h1 : P1 W) (h : ∀ V, P1 V → wpList P ops Q rest a V) : wpList P ops Q rest a W := h W h1
end
theorem blk_other {W : World} {g g' i : Nat} {o : Obj} (u : Value) (h : W.heap[g]? = some o) (hne : g ≠ g') : (W.setCell ⟨g', i, none⟩ u).heap[g]? = some o := (Below.heap_setCell W ⟨g', i, none⟩ u g hne).trans h
abbrev cells3 (x y z : Int) : Array Value := #[.int .i64 x, .int .i64 y, .int .i64 z]
theorem blk_store3 {V : World} {g t : Nat} {a b c : Int} (h : V.heap[g]? = some (.cells (cells3 a b c) t (0, 0))) (x y z : Int) :
    (((V.setCell ⟨g, 0, none⟩ (.int .i64 x)).setCell ⟨g, 1, none⟩ (.int .i64 y)).setCell ⟨g, 2, none⟩ (.int .i64 z)).heap[g]? = some (.cells (cells3 x y z) t (0, 0)) :=
  blk_put (blk_put (blk_put h 0 _ rfl) 1 _ rfl) 2 _ rfl
def pick3 (i j : Nat) (x y : Int) : Int := if j < i then x else y
structure Two (w : World) (f0 f1 f2 s0 s1 s2 : Int) (V : World) : Prop where
  first : V.heap[w.heap.size]? = some (.cells (cells3 f0 f1 f2) 51 (0, 0))
  second : V.heap[w.heap.size + 1]? = some (.cells (cells3 s0 s1 s2) 51 (0, 0))
  below : Below w.heap.size w V
theorem two_new (w : World) (n : Nat) : Two w 0 0 0 0 0 0 (((w.drewN n).alloc (.cells #[.int .i64 0, .int .i64 0, .int .i64 0] 51)).alloc (.cells #[.int .i64 0, .int .i64 0, .int .i64 0] 51)) := by
  have hsz : ((w.drewN n).alloc (.cells #[.int .i64 0, .int .i64 0, .int .i64 0] 51)).heap.size = w.heap.size + 1 := by
    show ((w.drewN n).heap.push _).size = _
    rw [Array.size_push]
    rfl
  refine ⟨blk_alloc (blk_new (w.drewN n) _) _, ?_, ?_⟩
  · have h := blk_new ((w.drewN n).alloc (.cells #[.int .i64 0, .int .i64 0, .int .i64 0] 51)) (.cells #[.int .i64 0, .int .i64 0, .int .i64 0] 51)
    rw [hsz] at h
    exact h
  · exact Below.alloc (Below.alloc (pw_below_drewN (Below.refl _ _) _) (Nat.le_refl _) _) (by rw [hsz]; exact Nat.le_succ _) _
set_option maxHeartbeats 3200000 in
set_option maxRecDepth 100000 in
theorem impl_BothEuclid.calls (k : Nat) (a0 a1 r1 r2 r3 : Int) (r4 : Bool) (w : World) (h : impl_BothEuclid.f k a0 a1 = some (r1, r2, r3, r4)) :
    Calls Try.prog 37 #[.int .i64 a0, .int .i64 a1] w fun e w' => e = .returned (.tuple #[.int .i64 r1, .int .i64 r2, .int .i64 r3, .bool r4]) ∧ Below w.heap.size w w' := by
  have H := Aside0.mk h
  clear h
  go_enter Try.func37, Try.ntmps37
  go_upto_region 1 with (fail)
  go_cut [27] (fun v27 wc => v27 = .bool (!beOk a0 a1) ∧ Drawn0 w wc)
  case first =>
    clear H
    by_cases ha : 0 ≤ a0 ∧ a0 ≤ 1000000
    · have EA := Aside0.mk (show decide (0 ≤ a0 ∧ a0 ≤ 1000000) = true from decide_eq_true ha)
      by_cases hb : 0 ≤ a1 ∧ a1 ≤ 1000000
      · have EB := Aside0.mk (show decide (0 ≤ a1 ∧ a1 ≤ 1000000) = true from decide_eq_true hb)
        by_cases h0 : a0 = 0
        · have e0 : (a0 == 0) = true := beq_iff_eq.mpr h0
          have E := Aside0.mk (show (!beOk a0 a1) = (a1 == 0) by unfold beOk; rw [decide_eq_true ha, decide_eq_true hb, decide_eq_true h0]; cases hh : (a1 == 0) <;> simp_all)
          clear ha hb h0
          go_wp2_with (go_at_call 42; first | (with_reducible refine (be_within a0 0 1000000 true _ EA.out).mono ?_; rintro e w' ⟨rfl, ⟨n1, rfl⟩⟩) | (with_reducible refine (be_within a1 0 1000000 true _ EB.out).mono ?_; rintro e w' ⟨rfl, ⟨n2, rfl⟩⟩))
          all_goals
            go_meet
            case rel => exact ⟨by rw [E.out], by repeat (first | exact Drawn0.refl _ | apply Drawn0.step)⟩
        · have e0 : (a0 == 0) = false := beq_eq_false_iff_ne.mpr h0
          have E := Aside0.mk (show (!beOk a0 a1) = false by unfold beOk; rw [decide_eq_true ha, decide_eq_true hb, decide_eq_false h0]; rfl)
          clear ha hb h0
          go_wp2_with (go_at_call 42; first | (with_reducible refine (be_within a0 0 1000000 true _ EA.out).mono ?_; rintro e w' ⟨rfl, ⟨n1, rfl⟩⟩) | (with_reducible refine (be_within a1 0 1000000 true _ EB.out).mono ?_; rintro e w' ⟨rfl, ⟨n2, rfl⟩⟩))
          all_goals
            go_meet
            case rel => exact ⟨by rw [E.out], by repeat (first | exact Drawn0.refl _ | apply Drawn0.step)⟩
      · have EB := Aside0.mk (show decide (0 ≤ a1 ∧ a1 ≤ 1000000) = false from decide_eq_false hb)
        have E := Aside0.mk (show (!beOk a0 a1) = true by unfold beOk; rw [decide_eq_true ha, decide_eq_false hb]; rfl)
        clear ha hb
        go_wp2_with (go_at_call 42; first | (with_reducible refine (be_within a0 0 1000000 true _ EA.out).mono ?_; rintro e w' ⟨rfl, ⟨n1, rfl⟩⟩) | (with_reducible refine (be_within a1 0 1000000 false _ EB.out).mono ?_; rintro e w' ⟨rfl, ⟨n2, rfl⟩⟩))
        all_goals
          go_meet
          case rel => exact ⟨by rw [E.out], by repeat (first | exact Drawn0.refl _ | apply Drawn0.step)⟩
    · have EA := Aside0.mk (show decide (0 ≤ a0 ∧ a0 ≤ 1000000) = false from decide_eq_false ha)
      have E := Aside0.mk (show (!beOk a0 a1) = true by unfold beOk; rw [decide_eq_false ha]; rfl)
      clear ha
      go_wp2_with (go_at_call 42; with_reducible refine (be_within a0 0 1000000 false _ EA.out).mono ?_; rintro e w' ⟨rfl, ⟨n1, rfl⟩⟩)
      all_goals
        go_meet
        case rel => exact ⟨by rw [E.out], by repeat (first | exact Drawn0.refl _ | apply Drawn0.step)⟩
  case rest =>
    obtain ⟨rfl, ⟨n0, rfl⟩⟩ := hcut
    unfold impl_BothEuclid.f at H
    cases hok : beOk a0 a1 with
    | false =>
      have H1 := H.out
      rw [hok, if_neg (by decide)] at H1
      simp only [Option.some.injEq, Prod.mk.injEq] at H1
      obtain ⟨rfl, rfl, rfl, rfl⟩ := H1
      clear H hok
      go_wp2
      refine bodyPost_ret (results_list (rs := [.tmp 4, .tmp 5, .tmp 6, .tmp 7]) rfl (by simp) (.tmp (.tmp (.tmp (.tmp .nil))))) rfl ?_
      exact ⟨rfl, by repeat (first | exact Below.refl _ _ | apply pw_below_drewN)⟩
    | true =>
      have H1 := H.out
      rw [hok, if_pos rfl] at H1
      have HH := Aside0.mk H1
      clear H H1 hok
      go_wp2_with (first
        | ((with_reducible refine gate_store (t := 51) (p := 8) rfl ?_)
           go_loud (refine gen_w (Two w 0 0 0 0 0 0) (two_new w n0) ?_)
           intro V hV
           have T0 := Aside0.mk hV
           have f0 := (blk_cell hV.first 0).trans rfl
           have z0 := blk_frozen hV.first 0
           have p1 := blk_put hV.first 0 (.int .i64 a0) rfl
           have f1 := (blk_cell p1 1).trans rfl
           have z1 := blk_frozen p1 1
           have p2 := blk_put p1 1 (.int .i64 1) rfl
           have f2 := (blk_cell p2 2).trans rfl
           have z2 := blk_frozen p2 2
           clear hV p1 p2
           refine store_event (t := 51) (p := 8) (v := ?vo) (w1 := ((V.setCell ⟨w.heap.size, 0, none⟩ (.int .i64 a0)).setCell ⟨w.heap.size, 1, none⟩ (.int .i64 1)).setCell ⟨w.heap.size, 2, none⟩ (.int .i64 0)) ?hg ?ho ?hn ?hr ?_
           (case ho => rfl)
           (case hg => rfl)
           (case hn => rfl)
           (case hr => first | (go_simp; done) | (go_simp; rfl))
           intro w' hw
           subst hw
           clear f0 z0 f1 z1 f2 z2
           refine gen_w (Two w a0 1 0 0 0 0) ⟨blk_store3 T0.out.first _ _ _, blk_other _ (blk_other _ (blk_other _ T0.out.second (by omega)) (by omega)) (by omega), below_set (below_set (below_set T0.out.below (Nat.le_refl _)) (Nat.le_refl _)) (Nat.le_refl _)⟩ ?_
           clear T0 V
           intro V hV
           have T1 := Aside0.mk hV
           clear hV)
        | ((with_reducible refine gate_store (t := 51) (p := 9) rfl ?_)
           go_loud (
             have hV := T1.out
             have f0 := (blk_cell hV.second 0).trans rfl
             have z0 := blk_frozen hV.second 0
             have p1 := blk_put hV.second 0 (.int .i64 a1) rfl
             have f1 := (blk_cell p1 1).trans rfl
             have z1 := blk_frozen p1 1
             have p2 := blk_put p1 1 (.int .i64 0) rfl
             have f2 := (blk_cell p2 2).trans rfl
             have z2 := blk_frozen p2 2
             clear hV p1 p2
             refine store_event (t := 51) (p := 9) (v := ?vo2) (w1 := ((V.setCell ⟨w.heap.size + 1, 0, none⟩ (.int .i64 a1)).setCell ⟨w.heap.size + 1, 1, none⟩ (.int .i64 0)).setCell ⟨w.heap.size + 1, 2, none⟩ (.int .i64 1)) ?hg2 ?ho2 ?hn2 ?hr2 ?_
             (case ho2 => rfl)
             (case hg2 => rfl)
             (case hn2 => rfl)
             (case hr2 => first | (go_simp; done) | (go_simp; rfl))
             intro w' hw
             subst hw
             clear f0 z0 f1 z1 f2 z2
             refine gen_w (Two w a0 1 0 a1 0 1) ⟨blk_other _ (blk_other _ (blk_other _ T1.out.first (by omega)) (by omega)) (by omega), blk_store3 T1.out.second _ _ _, below_set (below_set (below_set T1.out.below (by omega)) (by omega)) (by omega)⟩ ?_
             clear T1 V
             intro V hV
             have T2 := Aside0.mk hV
             clear hV)))
      go_loopg [10] k (fun kq v10 w' => ∃ f0 f1 f2 s0 s1 s2 : Int, Aside0 (impl_BothEuclid.l0 kq f0 f1 f2 s0 s1 s2 = some (r1, r2, r3, r4)) ∧ Aside0 (kq ≤ k) ∧ Aside0 (Two w f0 f1 f2 s0 s1 s2 w'))
      case atStart => exact ⟨a0, 1, 0, a1, 0, 1, HH, ⟨Nat.le_refl _⟩, T2⟩
      case round =>
        clear HH T2
        obtain ⟨f0, f1, f2, s0, s1, s2, HA, HK, HT⟩ := hrel
        cases gk with
        | zero => exact absurd HA.out (by simp [impl_BothEuclid.l0])
        | succ k1 =>
          have H := HA.out
          clear HA
          unfold impl_BothEuclid.l0 at H
          have cs0 := (blk_cell HT.out.second 0).trans rfl
          by_cases h0 : s0 = 0
          · rw [if_pos h0] at H
            simp only [Option.some.injEq, Prod.mk.injEq] at H
            obtain ⟨rfl, rfl, rfl, rfl⟩ := H
            subst h0
            have cf0 := (blk_cell HT.out.first 0).trans rfl
            have cf1 := (blk_cell HT.out.first 1).trans rfl
            have cf2 := (blk_cell HT.out.first 2).trans rfl
            go_wp2_with fail
            go_quiet (fail)
            go_wp2_with fail
            refine bodyPost_ret (results_list (rs := [.tmp 4, .tmp 5, .tmp 6, .tmp 7]) rfl (by simp) (.tmp (.tmp (.tmp (.tmp .nil))))) rfl ?_
            exact ⟨rfl, pw_below_drewN HT.out.below _⟩
          · rw [if_neg h0] at H
            have e0 : (s0 == 0) = false := beq_eq_false_iff_ne.mpr h0
            have e0' : (s0 != 0) = true := bne_iff_ne.mpr h0
            by_cases hbd : (0 ≤ f0 ∧ f0 ≤ 1000000) ∧ (0 ≤ s0 ∧ s0 ≤ 1000000)
            · rw [if_pos hbd] at H
              have cf0 := (blk_cell HT.out.first 0).trans rfl
              have H' := Aside0.mk H
              clear H
              obtain ⟨⟨b1, b2⟩, b3, b4⟩ := hbd
              go_wp2_with fail
              clear e0 e0' b1 b2 b3 b4 h0 cs0 cf0
              generalize f0 / s0 = q at H' ⊢
              go_loopg [40] 3 (fun kq v40 w' => ∃ i : Nat, v40 = .int .i64 (i : Int) ∧ Aside0 (i + kq = 3) ∧ Aside0 (Two w (pick3 i 0 s0 f0) (pick3 i 1 s1 f1) (pick3 i 2 s2 f2) (pick3 i 0 (wrap64 (f0 - wrap64 (q * s0))) s0) (pick3 i 1 (wrap64 (f1 - wrap64 (q * s1))) s1) (pick3 i 2 (wrap64 (f2 - wrap64 (q * s2))) s2) w'))
              case atStart => exact ⟨0, rfl, ⟨rfl⟩, HT⟩
              case round =>
                clear HT
                obtain ⟨i, rfl, hik, HT⟩ := hrel
                have hik' := hik.out
                have ne1 : ¬ (w.heap.size = w.heap.size + 1) := by omega
                have ne2 : ¬ (w.heap.size + 1 = w.heap.size) := by omega
                match i, hik', HT with
                | 0, hik', HT =>
                  have HT' := HT.out
                  have cf := (blk_cell HT'.first 0).trans rfl
                  have cs := (blk_cell HT'.second 0).trans rfl
                  have zf := blk_frozen HT'.first 0
                  have zs := blk_frozen HT'.second 0
                  clear HT'
                  go_wp2_with fail
                  go_region
                  go_wp2_with fail
                  go_roundg (gk - 1)
                  case measure => omega
                  case rel => exact ⟨1, rfl, ⟨by omega⟩, ⟨⟨blk_other _ (blk_put HT.out.first 0 _ rfl) ne1, blk_put (blk_other _ HT.out.second ne2) 0 _ rfl, below_drew (below_set (below_set HT.out.below (Nat.le_refl _)) (Nat.le_succ _))⟩⟩⟩
                | 1, hik', HT =>
                  have HT' := HT.out
                  have cf := (blk_cell HT'.first 1).trans rfl
                  have cs := (blk_cell HT'.second 1).trans rfl
                  have zf := blk_frozen HT'.first 1
                  have zs := blk_frozen HT'.second 1
                  clear HT'
                  go_wp2_with fail
                  go_region
                  go_wp2_with fail
                  go_roundg (gk - 1)
                  case measure => omega
                  case rel => exact ⟨2, rfl, ⟨by omega⟩, ⟨⟨blk_other _ (blk_put HT.out.first 1 _ rfl) ne1, blk_put (blk_other _ HT.out.second ne2) 1 _ rfl, below_drew (below_set (below_set HT.out.below (Nat.le_refl _)) (Nat.le_succ _))⟩⟩⟩
                | 2, hik', HT =>
                  have HT' := HT.out
                  have cf := (blk_cell HT'.first 2).trans rfl
                  have cs := (blk_cell HT'.second 2).trans rfl
                  have zf := blk_frozen HT'.first 2
                  have zs := blk_frozen HT'.second 2
                  clear HT'
                  go_wp2_with fail
                  go_region
                  go_wp2_with fail
                  go_roundg (gk - 1)
                  case measure => omega
                  case rel => exact ⟨3, rfl, ⟨by omega⟩, ⟨⟨blk_other _ (blk_put HT.out.first 2 _ rfl) ne1, blk_put (blk_other _ HT.out.second ne2) 2 _ rfl, below_drew (below_set (below_set HT.out.below (Nat.le_refl _)) (Nat.le_succ _))⟩⟩⟩
                | 3, hik', HT =>
                  go_wp2_with fail
                  go_roundg k1
                  case measure => have := HK.out; omega
                  case rel => exact ⟨_, _, _, _, _, _, H', ⟨by have := HK.out; omega⟩, HT⟩
                | n + 4, hik', HT => exact absurd hik' (by omega)
            · rw [if_neg hbd] at H
              cases H


/-! ### laws_FnExactBothEuclid: function 13 -/
def laws_FnExactBothEuclid.f (k : Nat) (a0 : Int) (a1 : Int) : Option (Bool) := (spec_BothEuclid.f k a0 a1).bind fun bt120 => ((impl_BothEuclid.f k a0 a1).bind fun bt124 => (if bt124.1 = bt120.1 then (if bt124.2.1 = bt120.2.1 then (if bt124.2.2.1 = bt120.2.2.1 then (if (bt124.2.2.2 != bt120.2.2.2) = true then (some false) else (some true)) else (some false)) else (some false)) else (some false)))
theorem laws_FnExactBothEuclid.mono : ∀ a0 a1 k, LeO (laws_FnExactBothEuclid.f k a0 a1) (laws_FnExactBothEuclid.f (k + 1) a0 a1) := by
  intro a0 a1 k
  unfold laws_FnExactBothEuclid.f
  repeat' first
      | (with_reducible exact impl_BothEuclid.mono _ _ _)
      | (with_reducible exact spec_BothEuclid.mono _ _ _)
      | (with_reducible exact LeO.refl _)
      | (with_reducible exact LeO.none _)
      | (with_reducible refine LeO.ite ?_ ?_)
      | (with_reducible refine LeO.bind ?_ (fun _ => ?_))
      | exact impl_BothEuclid.mono _ _ _
      | exact spec_BothEuclid.mono _ _ _
      | exact LeO.none _
      | refine LeO.ite ?_ ?_
      | refine LeO.bind ?_ (fun _ => ?_)
set_option maxHeartbeats 8000000 in
set_option maxRecDepth 100000 in
theorem laws_FnExactBothEuclid.calls (k : Nat) (a0 : Int) (a1 : Int) (r : Bool) (w : World) (h : laws_FnExactBothEuclid.f k a0 a1 = some r) :
    Calls Try.prog 13 #[.int .i64 a0, .int .i64 a1] w fun e w' => e = .returned (.bool r) ∧ Below w.heap.size w w' := by
  have HB := Aside0.mk (Below.refl w.heap.size w)
  have H : ((spec_BothEuclid.f k a0 a1).bind fun bt120 => ((impl_BothEuclid.f k a0 a1).bind fun bt124 => (if bt124.1 = bt120.1 then (if bt124.2.1 = bt120.2.1 then (if bt124.2.2.1 = bt120.2.2.1 then (if (bt124.2.2.2 != bt120.2.2.2) = true then (some false) else (some true)) else (some false)) else (some false)) else (some false)))) = some r := h
  clear h
  replace H := Option.bind_eq_some_iff.mp H
  obtain ⟨⟨t120, t121, t122, t123⟩, A30, H⟩ := H
  replace H : ((impl_BothEuclid.f k a0 a1).bind fun bt124 => (if bt124.1 = t120 then (if bt124.2.1 = t121 then (if bt124.2.2.1 = t122 then (if (bt124.2.2.2 != t123) = true then (some false) else (some true)) else (some false)) else (some false)) else (some false))) = some r := H
  have A3 := Aside0.mk A30
  clear A30
  replace H := Option.bind_eq_some_iff.mp H
  obtain ⟨⟨t124, t125, t126, t127⟩, A40, H⟩ := H
  replace H : (if t124 = t120 then (if t125 = t121 then (if t126 = t122 then (if (t127 != t123) = true then (some false) else (some true)) else (some false)) else (some false)) else (some false)) = some r := H
  have A4 := Aside0.mk A40
  clear A40
  by_cases c5 : t124 = t120
  · rw [if_pos c5] at H
    have c5b0 : (t124 == t120) = true := beq_iff_eq.mpr c5
    have c5b1 : (t124 != t120) = false := bne_eq_false_iff_eq.mpr c5
    clear c5
    by_cases c6 : t125 = t121
    · rw [if_pos c6] at H
      have c6b0 : (t125 == t121) = true := beq_iff_eq.mpr c6
      have c6b1 : (t125 != t121) = false := bne_eq_false_iff_eq.mpr c6
      clear c6
      by_cases c7 : t126 = t122
      · rw [if_pos c7] at H
        have c7b0 : (t126 == t122) = true := beq_iff_eq.mpr c7
        have c7b1 : (t126 != t122) = false := bne_eq_false_iff_eq.mpr c7
        clear c7
        by_cases c8 : (t127 != t123) = true
        · rw [if_pos c8] at H
          have c8b0 : (t127 != t123) = true := c8
          (try (have c8b1 : decide (t127 = t123) = false := by simpa using c8))
          (try (have c8b2 : (t127 == t123) = false := by simpa using c8))
          (try (have c8b3 : ¬ (t127 = t123) := by simpa using c8))
          clear c8
          obtain rfl := Option.some.inj H
          go_enter Try.func13, Try.ntmps13
          go_wp2_with (first | ((with_reducible refine gate_callee (f := 36) rfl ?_); refine goesL_ (some 16) rfl rfl Try.func36 (by kernel_rfl) rfl #[.int .i64 a0, .int .i64 a1] rfl (by (try simp only [List.map_toArray, List.map_cons, List.map_nil]); first | done | rfl | (simp only [List.length_drop, List.length_take]; rfl)) ?_; (with_reducible refine (spec_BothEuclid.calls k a0 a1 t120 t121 t122 t123 _ A3.out).mono ?_); rintro e w9 ⟨rfl, hb⟩; refine ⟨_, rfl, ?_⟩; have n0_ := Aside0.mk (below_step (by repeat (first | (with_reducible first | exact HB.out | apply below_alloc | apply pw_below_drewN | apply below_drew1) | exact HB.out)) hb); clear HB; have HB := n0_; clear n0_; (try clear hb); (try clear hb2); (try clear hk); (try clear hi)) | ((with_reducible refine gate_callee (f := 37) rfl ?_); refine goesL_ (some 24) rfl rfl Try.func37 (by kernel_rfl) rfl #[.int .i64 a0, .int .i64 a1] rfl (by (try simp only [List.map_toArray, List.map_cons, List.map_nil]); first | done | rfl | (simp only [List.length_drop, List.length_take]; rfl)) ?_; (with_reducible refine (impl_BothEuclid.calls k a0 a1 t124 t125 t126 t127 _ A4.out).mono ?_); rintro e w10 ⟨rfl, hb⟩; refine ⟨_, rfl, ?_⟩; have n0_ := Aside0.mk (below_step (by repeat (first | (with_reducible first | exact HB.out | apply below_alloc | apply pw_below_drewN | apply below_drew1) | exact HB.out)) hb); clear HB; have HB := n0_; clear n0_; (try clear hb); (try clear hb2); (try clear hk); (try clear hi)))
          go_ret
          exact ⟨by first | rfl | (simp [errW_none, errW_some] <;> rfl) | (simp [*, errW_none, errW_some] <;> rfl), by repeat (first | (with_reducible first | exact HB.out | apply below_alloc | apply pw_below_drewN | apply below_drew1) | exact HB.out)⟩
        · rw [if_neg c8] at H
          have c8b0 : (t127 != t123) = false := by simpa using c8
          (try (have c8b1 : decide (t127 = t123) = true := by simpa using c8))
          (try (have c8b2 : (t127 == t123) = true := by simpa using c8))
          clear c8
          obtain rfl := Option.some.inj H
          go_enter Try.func13, Try.ntmps13
          go_wp2_with (first | ((with_reducible refine gate_callee (f := 36) rfl ?_); refine goesL_ (some 16) rfl rfl Try.func36 (by kernel_rfl) rfl #[.int .i64 a0, .int .i64 a1] rfl (by (try simp only [List.map_toArray, List.map_cons, List.map_nil]); first | done | rfl | (simp only [List.length_drop, List.length_take]; rfl)) ?_; (with_reducible refine (spec_BothEuclid.calls k a0 a1 t120 t121 t122 t123 _ A3.out).mono ?_); rintro e w11 ⟨rfl, hb⟩; refine ⟨_, rfl, ?_⟩; have n0_ := Aside0.mk (below_step (by repeat (first | (with_reducible first | exact HB.out | apply below_alloc | apply pw_below_drewN | apply below_drew1) | exact HB.out)) hb); clear HB; have HB := n0_; clear n0_; (try clear hb); (try clear hb2); (try clear hk); (try clear hi)) | ((with_reducible refine gate_callee (f := 37) rfl ?_); refine goesL_ (some 24) rfl rfl Try.func37 (by kernel_rfl) rfl #[.int .i64 a0, .int .i64 a1] rfl (by (try simp only [List.map_toArray, List.map_cons, List.map_nil]); first | done | rfl | (simp only [List.length_drop, List.length_take]; rfl)) ?_; (with_reducible refine (impl_BothEuclid.calls k a0 a1 t124 t125 t126 t127 _ A4.out).mono ?_); rintro e w12 ⟨rfl, hb⟩; refine ⟨_, rfl, ?_⟩; have n0_ := Aside0.mk (below_step (by repeat (first | (with_reducible first | exact HB.out | apply below_alloc | apply pw_below_drewN | apply below_drew1) | exact HB.out)) hb); clear HB; have HB := n0_; clear n0_; (try clear hb); (try clear hb2); (try clear hk); (try clear hi)))
          go_ret
          exact ⟨by first | rfl | (simp [errW_none, errW_some] <;> rfl) | (simp [*, errW_none, errW_some] <;> rfl), by repeat (first | (with_reducible first | exact HB.out | apply below_alloc | apply pw_below_drewN | apply below_drew1) | exact HB.out)⟩
      · rw [if_neg c7] at H
        have c7b0 : (t126 == t122) = false := beq_eq_false_iff_ne.mpr c7
        have c7b1 : (t126 != t122) = true := bne_iff_ne.mpr c7
        obtain rfl := Option.some.inj H
        go_enter Try.func13, Try.ntmps13
        go_wp2_with (first | ((with_reducible refine gate_callee (f := 36) rfl ?_); refine goesL_ (some 16) rfl rfl Try.func36 (by kernel_rfl) rfl #[.int .i64 a0, .int .i64 a1] rfl (by (try simp only [List.map_toArray, List.map_cons, List.map_nil]); first | done | rfl | (simp only [List.length_drop, List.length_take]; rfl)) ?_; (with_reducible refine (spec_BothEuclid.calls k a0 a1 t120 t121 t122 t123 _ A3.out).mono ?_); rintro e w13 ⟨rfl, hb⟩; refine ⟨_, rfl, ?_⟩; have n0_ := Aside0.mk (below_step (by repeat (first | (with_reducible first | exact HB.out | apply below_alloc | apply pw_below_drewN | apply below_drew1) | exact HB.out)) hb); clear HB; have HB := n0_; clear n0_; (try clear hb); (try clear hb2); (try clear hk); (try clear hi)) | ((with_reducible refine gate_callee (f := 37) rfl ?_); refine goesL_ (some 24) rfl rfl Try.func37 (by kernel_rfl) rfl #[.int .i64 a0, .int .i64 a1] rfl (by (try simp only [List.map_toArray, List.map_cons, List.map_nil]); first | done | rfl | (simp only [List.length_drop, List.length_take]; rfl)) ?_; (with_reducible refine (impl_BothEuclid.calls k a0 a1 t124 t125 t126 t127 _ A4.out).mono ?_); rintro e w14 ⟨rfl, hb⟩; refine ⟨_, rfl, ?_⟩; have n0_ := Aside0.mk (below_step (by repeat (first | (with_reducible first | exact HB.out | apply below_alloc | apply pw_below_drewN | apply below_drew1) | exact HB.out)) hb); clear HB; have HB := n0_; clear n0_; (try clear hb); (try clear hb2); (try clear hk); (try clear hi)))
        go_ret
        exact ⟨by first | rfl | (simp [errW_none, errW_some] <;> rfl) | (simp [*, errW_none, errW_some] <;> rfl), by repeat (first | (with_reducible first | exact HB.out | apply below_alloc | apply pw_below_drewN | apply below_drew1) | exact HB.out)⟩
    · rw [if_neg c6] at H
      have c6b0 : (t125 == t121) = false := beq_eq_false_iff_ne.mpr c6
      have c6b1 : (t125 != t121) = true := bne_iff_ne.mpr c6
      obtain rfl := Option.some.inj H
      go_enter Try.func13, Try.ntmps13
      go_wp2_with (first | ((with_reducible refine gate_callee (f := 36) rfl ?_); refine goesL_ (some 16) rfl rfl Try.func36 (by kernel_rfl) rfl #[.int .i64 a0, .int .i64 a1] rfl (by (try simp only [List.map_toArray, List.map_cons, List.map_nil]); first | done | rfl | (simp only [List.length_drop, List.length_take]; rfl)) ?_; (with_reducible refine (spec_BothEuclid.calls k a0 a1 t120 t121 t122 t123 _ A3.out).mono ?_); rintro e w15 ⟨rfl, hb⟩; refine ⟨_, rfl, ?_⟩; have n0_ := Aside0.mk (below_step (by repeat (first | (with_reducible first | exact HB.out | apply below_alloc | apply pw_below_drewN | apply below_drew1) | exact HB.out)) hb); clear HB; have HB := n0_; clear n0_; (try clear hb); (try clear hb2); (try clear hk); (try clear hi)) | ((with_reducible refine gate_callee (f := 37) rfl ?_); refine goesL_ (some 24) rfl rfl Try.func37 (by kernel_rfl) rfl #[.int .i64 a0, .int .i64 a1] rfl (by (try simp only [List.map_toArray, List.map_cons, List.map_nil]); first | done | rfl | (simp only [List.length_drop, List.length_take]; rfl)) ?_; (with_reducible refine (impl_BothEuclid.calls k a0 a1 t124 t125 t126 t127 _ A4.out).mono ?_); rintro e w16 ⟨rfl, hb⟩; refine ⟨_, rfl, ?_⟩; have n0_ := Aside0.mk (below_step (by repeat (first | (with_reducible first | exact HB.out | apply below_alloc | apply pw_below_drewN | apply below_drew1) | exact HB.out)) hb); clear HB; have HB := n0_; clear n0_; (try clear hb); (try clear hb2); (try clear hk); (try clear hi)))
      go_ret
      exact ⟨by first | rfl | (simp [errW_none, errW_some] <;> rfl) | (simp [*, errW_none, errW_some] <;> rfl), by repeat (first | (with_reducible first | exact HB.out | apply below_alloc | apply pw_below_drewN | apply below_drew1) | exact HB.out)⟩
  · rw [if_neg c5] at H
    have c5b0 : (t124 == t120) = false := beq_eq_false_iff_ne.mpr c5
    have c5b1 : (t124 != t120) = true := bne_iff_ne.mpr c5
    obtain rfl := Option.some.inj H
    go_enter Try.func13, Try.ntmps13
    go_wp2_with (first | ((with_reducible refine gate_callee (f := 36) rfl ?_); refine goesL_ (some 16) rfl rfl Try.func36 (by kernel_rfl) rfl #[.int .i64 a0, .int .i64 a1] rfl (by (try simp only [List.map_toArray, List.map_cons, List.map_nil]); first | done | rfl | (simp only [List.length_drop, List.length_take]; rfl)) ?_; (with_reducible refine (spec_BothEuclid.calls k a0 a1 t120 t121 t122 t123 _ A3.out).mono ?_); rintro e w17 ⟨rfl, hb⟩; refine ⟨_, rfl, ?_⟩; have n0_ := Aside0.mk (below_step (by repeat (first | (with_reducible first | exact HB.out | apply below_alloc | apply pw_below_drewN | apply below_drew1) | exact HB.out)) hb); clear HB; have HB := n0_; clear n0_; (try clear hb); (try clear hb2); (try clear hk); (try clear hi)) | ((with_reducible refine gate_callee (f := 37) rfl ?_); refine goesL_ (some 24) rfl rfl Try.func37 (by kernel_rfl) rfl #[.int .i64 a0, .int .i64 a1] rfl (by (try simp only [List.map_toArray, List.map_cons, List.map_nil]); first | done | rfl | (simp only [List.length_drop, List.length_take]; rfl)) ?_; (with_reducible refine (impl_BothEuclid.calls k a0 a1 t124 t125 t126 t127 _ A4.out).mono ?_); rintro e w18 ⟨rfl, hb⟩; refine ⟨_, rfl, ?_⟩; have n0_ := Aside0.mk (below_step (by repeat (first | (with_reducible first | exact HB.out | apply below_alloc | apply pw_below_drewN | apply below_drew1) | exact HB.out)) hb); clear HB; have HB := n0_; clear n0_; (try clear hb); (try clear hb2); (try clear hk); (try clear hi)))
    go_ret
    exact ⟨by first | rfl | (simp [errW_none, errW_some] <;> rfl) | (simp [*, errW_none, errW_some] <;> rfl), by repeat (first | (with_reducible first | exact HB.out | apply below_alloc | apply pw_below_drewN | apply below_drew1) | exact HB.out)⟩

/-- THE ONE PURE STATEMENT of laws_FnExactBothEuclid: yours. -/
def laws_FnExactBothEuclid.Pure : Prop := ∀ (a0 : Int) (a1 : Int), (Lit.int .i64 a0).wf = true → (Lit.int .i64 a1).wf = true → ∃ k, laws_FnExactBothEuclid.f k a0 a1 = some true
theorem laws_FnExactBothEuclid.walk (P : laws_FnExactBothEuclid.Pure) (a0 : Int) (a1 : Int) (w : World) (w0 : (Lit.int .i64 a0).wf = true) (w1 : (Lit.int .i64 a1).wf = true) :
    Calls Try.prog 13 #[.int .i64 a0, .int .i64 a1] w fun e w' => e = .returned (.bool true) ∧ Below w.heap.size w w' := by
  obtain ⟨k, h⟩ := P a0 a1 w0 w1
  refine (laws_FnExactBothEuclid.calls k a0 a1 true w h).mono ?_
  rintro e w' ⟨rfl, hd⟩
  exact ⟨rfl, hd⟩

end Go.Proofs.Ytlikjclgpmalkaa.SFnExactBothEuclid
