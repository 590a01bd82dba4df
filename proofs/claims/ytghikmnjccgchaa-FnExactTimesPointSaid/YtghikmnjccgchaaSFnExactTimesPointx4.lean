-- Written by sprint.py, a program of this session's, over the kit's print. Not trusted: Lean checks it.
import Derived.Test.YtghikmnjccgchaaSFnExactTimesPointx0
import Derived.Test.YtghikmnjccgchaaSFnExactTimesPointx1
import Derived.Test.YtghikmnjccgchaaSFnExactTimesPointx3
namespace Go.Proofs.Ytghikmnjccgchaa.SFnExactTimesPoint
open Go.RowKit Go.Proofs.YtghikmnjccgchaaW.PrintWords Go.Proofs.YtghikmnjccgchaaW.PrintLast Go.Proofs.YtghikmnjccgchaaW.PrintMore
attribute [local go_sem] max2_int min2_int max_two min_two max_three min_three max_four min_four   -- for this text's walks alone
set_option linter.unusedVariables false
set_option linter.unusedSimpArgs false

/-! ### impl_addPoints: function 48 -/
def ovN (p n : Int) : Int := Int.tmod (wrap64 (Int.tmod n p + p)) p
/-- a quotient modulo p, as the program reckons it -/
def ovF (k : Nat) (p num den : Int) : Option Int := (impl_powerMod.f k (ovN p den) (p - 2) p).bind fun t => some (Int.tmod (wrap64 (ovN p num * t)) p)
theorem over.calls (k : Nat) (p d num den r : Int) (g : Nat) (w : World) (hp : 5 ≤ p ∧ p ≤ 199) (hg : w.heap[g]? = some (.cells #[.int .i64 p, .int .i64 d] 25 (0, 0))) (h : ovF k p num den = some r) :
    Calls Try.prog 56 #[.int .i64 num, .int .i64 den, .pointer (some ⟨g, 0, none⟩)] w fun e w' => e = .returned (.int .i64 r) ∧ Drawn0 w w' := by
  obtain ⟨t, ht, h⟩ := Option.bind_eq_some_iff.mp h
  obtain rfl := Option.some.inj h
  have HT := Aside0.mk ht
  clear h ht
  have hc0 : w.cell? ⟨g, 0, none⟩ = some (.int .i64 p) := (blk_cell hg 0).trans rfl
  have hglt := blk_lt hg
  clear hg
  obtain ⟨p5, p199⟩ := hp
  have hp0 : (p == 0) = false := by simp; omega
  go_enter Try.func56, Try.ntmps56
  go_wp2
  go_quiet (fail)
  go_wp2_with fail
  have hc1 : (w.drewN nq).cell? ⟨g, 0, none⟩ = some (.int .i64 p) := hc0
  obtain ⟨w1, hw1⟩ : ∃ w1, w.drewN nq = w1 := ⟨_, rfl⟩
  rw [hw1] at hc1 ⊢
  have HW := Aside0.mk hw1
  clear hw1 hc0
  have hq : ∀ n, Calls Try.prog 57 #[.int .i64 ((wrap64 (den.tmod p + p)).tmod p), .int .i64 (p - 2), .int .i64 p] (w1.drewN n) fun e w'' => e = .returned (.int .i64 t) ∧ ∃ m, w'' = w1.drewN m := fun n => Calls.quiet_of (Calls.mono (impl_powerMod.calls k (ovN p den) (p - 2) p t _ HT.out) fun _ _ hh => ⟨hh.1, hh.2.out⟩)
  have hw2 : IntKind.i64.wrap (p - 2) = p - 2 := by rw [IntKind.wrap_i64]; omega
  go_quiet ((go_at_call 57; exact hq _))
  go_wp2_with fail
  go_ret
  refine ⟨rfl, ?_⟩
  rw [← HW.out]
  exact ⟨⟨_, World.drewN_drewN _ _ _⟩⟩
/-- the coordinates of a point, in bounds -/
def inP (p x : Int) : Bool := decide (0 ≤ x ∧ x ≤ p - 1)
def addM (p d ax ay bx by_ : Int) : Int := Int.tmod (Int.tmod (Int.tmod (Int.tmod (d * ax) p * bx) p * ay) p * by_) p
theorem wmul {a b : Int} (ha : 0 ≤ a ∧ a ≤ 199) (hb : 0 ≤ b ∧ b ≤ 199) : IntKind.i64.wrap (a * b) = a * b := by
  have h1 : 0 ≤ a * b := Int.mul_nonneg ha.1 hb.1
  have h2 : a * b ≤ 199 * 199 := Int.mul_le_mul ha.2 hb.2 hb.1 (by omega)
  generalize a * b = x at h1 h2 ⊢
  clear ha hb
  rw [IntKind.wrap_i64]
  omega
theorem tmb {x p : Int} (hx : 0 ≤ x) (hp : 5 ≤ p ∧ p ≤ 199) : 0 ≤ Int.tmod x p ∧ Int.tmod x p ≤ 199 := by
  have := Int.tmod_lt_of_pos x (show 0 < p by omega)
  have := Int.tmod_nonneg p hx
  omega
theorem wsum1 {m : Int} (h : 0 ≤ m ∧ m ≤ 199) : IntKind.i64.wrap (1 + m) = 1 + m := by
  rw [IntKind.wrap_i64]; omega
theorem wsum2 {m : Int} (h : 0 ≤ m ∧ m ≤ 199) : IntKind.i64.wrap (1 - m) = 1 - m := by
  rw [IntKind.wrap_i64]; omega
theorem wsum0 {m n : Int} (h : 0 ≤ m ∧ m ≤ 39601) (h' : 0 ≤ n ∧ n ≤ 39601) : IntKind.i64.wrap (m + n) = m + n ∧ IntKind.i64.wrap (m - n) = m - n := by
  constructor <;> (rw [IntKind.wrap_i64]; omega)
theorem mul39 {a b : Int} (ha : 0 ≤ a ∧ a ≤ 199) (hb : 0 ≤ b ∧ b ≤ 199) : 0 ≤ a * b ∧ a * b ≤ 39601 :=
  ⟨Int.mul_nonneg ha.1 hb.1, Int.mul_le_mul ha.2 hb.2 hb.1 (by omega)⟩
theorem wsum3 {a b c d : Int} (ha : 0 ≤ a ∧ a ≤ 199) (hb : 0 ≤ b ∧ b ≤ 199) (hc : 0 ≤ c ∧ c ≤ 199) (hd : 0 ≤ d ∧ d ≤ 199) : IntKind.i64.wrap (a * b + c * d) = a * b + c * d := (wsum0 (mul39 ha hb) (mul39 hc hd)).1
theorem wsum4 {a b c d : Int} (ha : 0 ≤ a ∧ a ≤ 199) (hb : 0 ≤ b ∧ b ≤ 199) (hc : 0 ≤ c ∧ c ≤ 199) (hd : 0 ≤ d ∧ d ≤ 199) : IntKind.i64.wrap (a * b - c * d) = a * b - c * d := (wsum0 (mul39 ha hb) (mul39 hc hd)).2
theorem pmul {a b : Int} (ha : 0 ≤ a ∧ a ≤ 199) (hb : 0 ≤ b ∧ b ≤ 199) : 0 ≤ a * b := Int.mul_nonneg ha.1 hb.1
def impl_addPoints.f (k : Nat) (p : Int) (d : Int) (ax : Int) (ay : Int) (bx : Int) (by_ : Int) : Option (Int × Int) :=
  if (5 ≤ p ∧ p ≤ 199) ∧ (0 ≤ d ∧ d ≤ p - 1) ∧ (0 ≤ ax ∧ ax ≤ p - 1) ∧ (0 ≤ ay ∧ ay ≤ p - 1) ∧ (0 ≤ bx ∧ bx ≤ p - 1) ∧ (0 ≤ by_ ∧ by_ ≤ p - 1) then
    (ovF k p (ax * by_ + ay * bx) (1 + addM p d ax ay bx by_)).bind fun x =>
    (ovF k p (ay * by_ - ax * bx) (1 - addM p d ax ay bx by_)).bind fun y => some (x, y)
  else none
theorem impl_addPoints.mono : ∀ a0 a1 a2 a3 a4 a5 k, LeO (impl_addPoints.f k a0 a1 a2 a3 a4 a5) (impl_addPoints.f (k + 1) a0 a1 a2 a3 a4 a5) := by
  intro a0 a1 a2 a3 a4 a5 k
  unfold impl_addPoints.f
  refine LeO.ite ?_ (LeO.none _)
  refine LeO.bind (LeO.bind (impl_powerMod.mono _ _ _ _) fun _ => LeO.refl _) fun _ => ?_
  exact LeO.bind (LeO.bind (impl_powerMod.mono _ _ _ _) fun _ => LeO.refl _) fun _ => LeO.refl _
set_option maxRecDepth 100000 in
set_option maxHeartbeats 3200000 in
theorem impl_addPoints.calls (k : Nat) (p d ax ay bx by_ r1 r2 : Int) (w : World) (h : impl_addPoints.f k p d ax ay bx by_ = some (r1, r2)) :
    Calls Try.prog 48 #[.agg #[.int .i64 p, .int .i64 d], .agg #[.int .i64 ax, .int .i64 ay], .agg #[.int .i64 bx, .int .i64 by_]] w fun e w' => e = .returned (.agg #[.int .i64 r1, .int .i64 r2]) ∧ Below w.heap.size w w' := by
  unfold impl_addPoints.f at h
  by_cases hb : (5 ≤ p ∧ p ≤ 199) ∧ (0 ≤ d ∧ d ≤ p - 1) ∧ (0 ≤ ax ∧ ax ≤ p - 1) ∧ (0 ≤ ay ∧ ay ≤ p - 1) ∧ (0 ≤ bx ∧ bx ≤ p - 1) ∧ (0 ≤ by_ ∧ by_ ≤ p - 1)
  · rw [if_pos hb] at h
    obtain ⟨x, hx, h⟩ := Option.bind_eq_some_iff.mp h
    obtain ⟨y, hy, h⟩ := Option.bind_eq_some_iff.mp h
    obtain ⟨rfl, rfl⟩ := Prod.mk.inj (Option.some.inj h)
    clear h
    have HX := Aside0.mk hx
    have HY := Aside0.mk hy
    clear hx hy
    have HP := Aside0.mk hb.1
    have hp0 : (p == 0) = false := by simp; omega
    have b1 : 0 ≤ d ∧ d ≤ 199 := by omega
    have b2 : 0 ≤ ax ∧ ax ≤ 199 := by omega
    have b3 : 0 ≤ ay ∧ ay ≤ 199 := by omega
    have b4 : 0 ≤ bx ∧ bx ≤ 199 := by omega
    have b5 : 0 ≤ by_ ∧ by_ ≤ 199 := by omega
    have wm1 := wmul b1 b2
    have t1 := tmb (pmul b1 b2) HP.out
    have wm2 := wmul t1 b4
    have t2 := tmb (pmul t1 b4) HP.out
    have wm3 := wmul t2 b3
    have t3 := tmb (pmul t2 b3) HP.out
    have wm4 := wmul t3 b5
    have t4 := tmb (pmul t3 b5) HP.out
    have W1 := Aside0.mk (wmul b2 b5)
    have W2 := Aside0.mk (wmul b3 b4)
    have W3 := Aside0.mk (wmul b3 b5)
    have W4 := Aside0.mk (wmul b2 b4)
    have T4 := Aside0.mk (show 0 ≤ addM p d ax ay bx by_ ∧ addM p d ax ay bx by_ ≤ 199 from t4)
    have W5 := Aside0.mk (wsum1 T4.out)
    have W6 := Aside0.mk (wsum2 T4.out)
    have W7 := Aside0.mk (wsum3 b2 b5 b3 b4)
    have W8 := Aside0.mk (wsum4 b3 b5 b2 b4)
    clear t1 t2 t3 t4 b1 b2 b3 b4 b5
    clear hb
    go_enter Try.func48, Try.ntmps48
    go_wp2_with fail
    have hsz : ∀ (W : World) (o : Obj), (W.alloc o).heap.size = W.heap.size + 1 := fun W o => by show (W.heap.push o).size = _; simp
    obtain ⟨W, hW⟩ : ∃ W, (((w.alloc (.cells #[.int .i64 p, .int .i64 d] 25)).alloc (.cells #[.int .i64 ax, .int .i64 ay] 29)).alloc (.cells #[.int .i64 bx, .int .i64 by_] 29)).alloc (.cells #[.int .i64 0, .int .i64 0] 29) = W := ⟨_, rfl⟩
    have hbel : Below w.heap.size w W := by
      rw [← hW]
      refine Below.alloc ?_ (by simp only [hsz]; omega) _
      refine Below.alloc ?_ (by simp only [hsz]; omega) _
      refine Below.alloc ?_ (by simp only [hsz]; omega) _
      exact Below.alloc (Below.refl _ _) (Nat.le_refl _) _
    have hC : W.heap[w.heap.size]? = some (.cells #[.int .i64 p, .int .i64 d] 25 (0, 0)) := by
      rw [← hW]
      exact blk_alloc (blk_alloc (blk_alloc (blk_new _ _) _) _) _
    have hA : W.heap[w.heap.size + 1]? = some (.cells #[.int .i64 ax, .int .i64 ay] 29 (0, 0)) := by
      rw [← hW]
      have e := blk_alloc (blk_alloc (blk_new (w.alloc (.cells #[.int .i64 p, .int .i64 d] 25)) (.cells #[.int .i64 ax, .int .i64 ay] 29)) (.cells #[.int .i64 bx, .int .i64 by_] 29)) (.cells #[.int .i64 0, .int .i64 0] 29)
      simp only [hsz] at e
      exact e
    have hB : W.heap[w.heap.size + 1 + 1]? = some (.cells #[.int .i64 bx, .int .i64 by_] 29 (0, 0)) := by
      rw [← hW]
      have e := blk_alloc (blk_new ((w.alloc (.cells #[.int .i64 p, .int .i64 d] 25)).alloc (.cells #[.int .i64 ax, .int .i64 ay] 29)) (.cells #[.int .i64 bx, .int .i64 by_] 29)) (.cells #[.int .i64 0, .int .i64 0] 29)
      simp only [hsz] at e
      exact e
    have hR : W.heap[w.heap.size + 1 + 1 + 1]? = some (.cells #[.int .i64 0, .int .i64 0] 29 (0, 0)) := by
      rw [← hW]
      have e := blk_new (((w.alloc (.cells #[.int .i64 p, .int .i64 d] 25)).alloc (.cells #[.int .i64 ax, .int .i64 ay] 29)).alloc (.cells #[.int .i64 bx, .int .i64 by_] 29)) (.cells #[.int .i64 0, .int .i64 0] 29)
      simp only [hsz] at e
      exact e
    rw [hW]
    clear hW hsz
    have HB00 := Aside0.mk hbel
    obtain ⟨g, hgg⟩ : ∃ g, w.heap.size = g := ⟨_, rfl⟩
    rw [hgg] at hC hA hB hR
    simp only [hgg]
    have c1 : W.cell? ⟨g, 0, none⟩ = some (.int .i64 p) := (blk_cell hC 0).trans rfl
    have c2 : W.cell? ⟨g, 1, none⟩ = some (.int .i64 d) := (blk_cell hC 1).trans rfl
    have c3 : W.cell? ⟨g + 1, 0, none⟩ = some (.int .i64 ax) := (blk_cell hA 0).trans rfl
    have c4 : W.cell? ⟨g + 1, 1, none⟩ = some (.int .i64 ay) := (blk_cell hA 1).trans rfl
    have c5 : W.cell? ⟨g + 1 + 1, 0, none⟩ = some (.int .i64 bx) := (blk_cell hB 0).trans rfl
    have c6 : W.cell? ⟨g + 1 + 1, 1, none⟩ = some (.int .i64 by_) := (blk_cell hB 1).trans rfl
    have HBEL := HB00
    have HCC := Aside0.mk hC
    have HR := Aside0.mk hR
    have hltR := blk_lt hR
    have hltC := blk_lt hC
    clear hbel hC hA hB hR
    have hp1 : ¬ (p = 0) := by have := HP.out; omega
    go_quiet (fail)
    go_wp2_with fail
    obtain ⟨m, hm⟩ : ∃ m, Int.tmod (Int.tmod (Int.tmod (Int.tmod (d * ax) p * bx) p * ay) p * by_) p = m := ⟨_, rfl⟩
    have HM := Aside0.mk (show addM p d ax ay bx by_ = m from hm)
    rw [hm]
    clear hm wm1 wm2 wm3 wm4
    have w1 := W1.out
    have w2 := W2.out
    have w3 := W3.out
    have w4 := W4.out
    have w5 : IntKind.i64.wrap (1 + m) = 1 + m := by rw [← HM.out]; exact W5.out
    have w6 : IntKind.i64.wrap (1 - m) = 1 - m := by rw [← HM.out]; exact W6.out
    have w7 := W7.out
    have w8 := W8.out
    obtain ⟨V, hV⟩ : ∃ V, W.drewN nq = V := ⟨_, rfl⟩
    have hCV : V.heap[g]? = some (.cells #[.int .i64 p, .int .i64 d] 25 (0, 0)) := by rw [← hV]; exact HCC.out
    have HRV := Aside0.mk (show V.heap[g + 1 + 1 + 1]? = some (.cells #[.int .i64 0, .int .i64 0] 29 (0, 0)) by rw [← hV]; exact HR.out)
    have c3 : V.cell? ⟨g + 1, 0, none⟩ = some (.int .i64 ax) := by rw [← hV]; exact c3
    have c4 : V.cell? ⟨g + 1, 1, none⟩ = some (.int .i64 ay) := by rw [← hV]; exact c4
    have c5 : V.cell? ⟨g + 1 + 1, 0, none⟩ = some (.int .i64 bx) := by rw [← hV]; exact c5
    have c6 : V.cell? ⟨g + 1 + 1, 1, none⟩ = some (.int .i64 by_) := by rw [← hV]; exact c6
    have HBV := Aside0.mk (show Below w.heap.size w V by rw [← hV]; exact pw_below_drewN HBEL.out _)
    have hltR : g + 1 + 1 + 1 < V.heap.size := by rw [← hV]; exact hltR
    have hltC : g < V.heap.size := by rw [← hV]; exact hltC
    rw [hV]
    have HX' := Aside0.mk (show ovF k p (ax * by_ + ay * bx) (1 + m) = some x by rw [← HM.out]; exact HX.out)
    have HY' := Aside0.mk (show ovF k p (ay * by_ - ax * bx) (1 - m) = some y by rw [← HM.out]; exact HY.out)
    have HCV := Aside0.mk hCV
    have cr0 : V.cell? ⟨g + 1 + 1 + 1, 0, none⟩ = some (.int .i64 0) := (blk_cell HRV.out 0).trans rfl
    have cr1 : V.cell? ⟨g + 1 + 1 + 1, 1, none⟩ = some (.int .i64 0) := (blk_cell HRV.out 1).trans rfl
    have fr0 : V.frozen? ⟨g + 1 + 1 + 1, 0, none⟩ = false := blk_frozen HRV.out 0
    have fr1 : V.frozen? ⟨g + 1 + 1 + 1, 1, none⟩ = false := blk_frozen HRV.out 1
    have ne1 : ¬ (g + 1 = g + 1 + 1 + 1) := by omega
    have ne2 : ¬ (g + 1 + 1 + 1 = g + 1) := by omega
    have ne3 : ¬ (g = g + 1 + 1) := by omega
    have ne4 : ¬ (g + 1 + 1 = g) := by omega
    clear hCV hV HX HY HM
    go_region_held3 (fun w' => w'.cell? ⟨g + 1, 0, none⟩ = some (.int .i64 ax) ∧ w'.cell? ⟨g + 1, 1, none⟩ = some (.int .i64 ay) ∧ w'.cell? ⟨g + 1 + 1, 0, none⟩ = some (.int .i64 bx) ∧ w'.cell? ⟨g + 1 + 1, 1, none⟩ = some (.int .i64 by_))
      (first
        | exact ⟨c3, c4, c5, c6⟩
        | go_keep)
      (first
        | (go_at_call 56
           with_reducible refine Calls.mono (over.calls k p d (ax * by_ + ay * bx) (1 + m) x g _ HP.out ?hg HX'.out) ?_
           (case hg => exact HCV.out)
           rintro e w' ⟨rfl, ⟨n1, rfl⟩⟩)
        | (go_at_call 56
           with_reducible refine Calls.mono (over.calls k p d (ay * by_ - ax * bx) (1 - m) y g _ HP.out ?hg HY'.out) ?_
           (case hg => exact HCV.out)
           rintro e w' ⟨rfl, ⟨n1, rfl⟩⟩))
    go_wp2
    have hblk : ∀ n, ((((V.drewN n).setCell ⟨g + 1 + 1 + 1, 0, none⟩ (.int .i64 x)).setCell ⟨g + 1 + 1 + 1, 1, none⟩ (.int .i64 y))).heap[g + 1 + 1 + 1]? = some (.cells #[.int .i64 x, .int .i64 y] 29 (0, 0)) := fun n => blk_put (blk_put (blk_drewN HRV.out n) 0 _ rfl) 1 _ rfl
    have hbl : ∀ n, Below w.heap.size w (((V.drewN n).setCell ⟨g + 1 + 1 + 1, 0, none⟩ (.int .i64 x)).setCell ⟨g + 1 + 1 + 1, 1, none⟩ (.int .i64 y)) := fun n => below_set (below_set (pw_below_drewN HBV.out n) (by omega)) (by omega)
    (try simp only [Exit.inBlock, Exit.then])
    refine bodyPost_ret (results_single (r := .cell 6 29) rfl (Vals.cell (g + 1 + 1 + 1) _ _ _ _ rfl (hblk _) Try.underlying29 rfl (by kernel_rfl) Vals.nil)) rfl ?_
    exact ⟨rfl, hbl _⟩
  · rw [if_neg hb] at h
    cases h


/-! ### impl_TimesPoint: function 33 -/
mutual
def impl_TimesPoint.j0 : Nat → Int → Bool → Int → Int → Int → Int → Option (Int × Int × Bool)
  | 0, _, _, _, _, _, _ => none
  | k + 1, x1, x18, x159000, x159001, x160000, x160001 => if x18 = true then (some (0, 0, false)) else (impl_TimesPoint.l0 k x1 x159000 x159001 x160000 x160001 0 1)
def impl_TimesPoint.l0 : Nat → Int → Int → Int → Int → Int → Int → Int → Option (Int × Int × Bool)
  | 0, _, _, _, _, _, _, _ => none
  | k + 1, x1, x159000, x159001, x160000, x160001, x167000, x167001 => if x1 > 0 then (if (Int.tmod x1 2) = 1 then ((impl_addPoints.f k x159000 x159001 x167000 x167001 x160000 x160001).bind fun bt167 => ((impl_addPoints.f k x159000 x159001 x160000 x160001 x160000 x160001).bind fun bt169 => (impl_TimesPoint.l0 k (wrap64 (Int.tdiv x1 2)) x159000 x159001 bt169.1 bt169.2 bt167.1 bt167.2))) else ((impl_addPoints.f k x159000 x159001 x160000 x160001 x160000 x160001).bind fun bt171 => (impl_TimesPoint.l0 k (wrap64 (Int.tdiv x1 2)) x159000 x159001 bt171.1 bt171.2 x167000 x167001))) else (some (x167000, x167001, true))
end
def impl_TimesPoint.f (k : Nat) (a0_0 : Int) (a0_1 : Int) (a1 : Int) (a2_0 : Int) (a2_1 : Int) : Option (Int × Int × Bool) := (impl_arePoints.f k a0_0 a0_1 (([(⟨a2_0, a2_1⟩ : S29)] : List (S29)))).bind fun t164 => (if t164 = true then ((impl_within.f a1 0 100000).bind fun t165 => (impl_TimesPoint.j0 k a1 (!t165) a0_0 a0_1 a2_0 a2_1)) else (impl_TimesPoint.j0 k a1 true a0_0 a0_1 a2_0 a2_1))
theorem impl_TimesPoint.mono_l : ∀ k, (∀ y0 y1 y2 y3 y4 y5, LeO (impl_TimesPoint.j0 k y0 y1 y2 y3 y4 y5) (impl_TimesPoint.j0 (k + 1) y0 y1 y2 y3 y4 y5)) ∧ (∀ y0 y1 y2 y3 y4 y5 y6, LeO (impl_TimesPoint.l0 k y0 y1 y2 y3 y4 y5 y6) (impl_TimesPoint.l0 (k + 1) y0 y1 y2 y3 y4 y5 y6))
  | 0 => ⟨fun _ _ _ _ _ _ r h => by simp [impl_TimesPoint.j0] at h, fun _ _ _ _ _ _ _ r h => by simp [impl_TimesPoint.l0] at h⟩
  | k + 1 => by
    obtain ⟨ih0, ih1⟩ := impl_TimesPoint.mono_l k
    refine ⟨?_, ?_⟩
    · intro y0 y1 y2 y3 y4 y5
      unfold impl_TimesPoint.j0
      repeat' first
      | (with_reducible exact ih0 _ _ _ _ _ _)
      | (with_reducible exact ih1 _ _ _ _ _ _ _)
      | (with_reducible exact impl_addPoints.mono _ _ _ _ _ _ _)
      | (with_reducible exact impl_arePoints.mono _ _ _ _)
      | (with_reducible exact LeO.refl _)
      | (with_reducible exact LeO.none _)
      | (with_reducible refine LeO.ite ?_ ?_)
      | (with_reducible refine LeO.bind ?_ (fun _ => ?_))
      | exact ih0 _ _ _ _ _ _
      | exact ih1 _ _ _ _ _ _ _
      | exact impl_addPoints.mono _ _ _ _ _ _ _
      | exact impl_arePoints.mono _ _ _ _
      | exact LeO.none _
      | refine LeO.ite ?_ ?_
      | refine LeO.bind ?_ (fun _ => ?_)
    · intro y0 y1 y2 y3 y4 y5 y6
      unfold impl_TimesPoint.l0
      repeat' first
      | (with_reducible exact ih0 _ _ _ _ _ _)
      | (with_reducible exact ih1 _ _ _ _ _ _ _)
      | (with_reducible exact impl_addPoints.mono _ _ _ _ _ _ _)
      | (with_reducible exact impl_arePoints.mono _ _ _ _)
      | (with_reducible exact LeO.refl _)
      | (with_reducible exact LeO.none _)
      | (with_reducible refine LeO.ite ?_ ?_)
      | (with_reducible refine LeO.bind ?_ (fun _ => ?_))
      | exact ih0 _ _ _ _ _ _
      | exact ih1 _ _ _ _ _ _ _
      | exact impl_addPoints.mono _ _ _ _ _ _ _
      | exact impl_arePoints.mono _ _ _ _
      | exact LeO.none _
      | refine LeO.ite ?_ ?_
      | refine LeO.bind ?_ (fun _ => ?_)
theorem impl_TimesPoint.mono : ∀ a0 a1 a2 a3 a4 k, LeO (impl_TimesPoint.f k a0 a1 a2 a3 a4) (impl_TimesPoint.f (k + 1) a0 a1 a2 a3 a4) := by
  intro a0 a1 a2 a3 a4 k
  obtain ⟨ih0, ih1⟩ := impl_TimesPoint.mono_l k
  unfold impl_TimesPoint.f
  repeat' first
      | (with_reducible exact ih0 _ _ _ _ _ _)
      | (with_reducible exact ih1 _ _ _ _ _ _ _)
      | (with_reducible exact impl_addPoints.mono _ _ _ _ _ _ _)
      | (with_reducible exact impl_arePoints.mono _ _ _ _)
      | (with_reducible exact LeO.refl _)
      | (with_reducible exact LeO.none _)
      | (with_reducible refine LeO.ite ?_ ?_)
      | (with_reducible refine LeO.bind ?_ (fun _ => ?_))
      | exact ih0 _ _ _ _ _ _
      | exact ih1 _ _ _ _ _ _ _
      | exact impl_addPoints.mono _ _ _ _ _ _ _
      | exact impl_arePoints.mono _ _ _ _
      | exact LeO.none _
      | refine LeO.ite ?_ ?_
      | refine LeO.bind ?_ (fun _ => ?_)
set_option maxHeartbeats 8000000 in
set_option maxRecDepth 100000 in
theorem impl_TimesPoint.calls (k : Nat) (a0_0 : Int) (a0_1 : Int) (a1 : Int) (a2_0 : Int) (a2_1 : Int) (r1 : Int) (r2 : Int) (r3 : Bool) (w : World) (h : impl_TimesPoint.f k a0_0 a0_1 a1 a2_0 a2_1 = some (r1, r2, r3)) :
    Calls Try.prog 33 #[.agg #[.int .i64 a0_0, .int .i64 a0_1], .int .i64 a1, .agg #[.int .i64 a2_0, .int .i64 a2_1]] w fun e w' => e = .returned (.tuple #[.agg #[.int .i64 r1, .int .i64 r2], .bool r3]) ∧ Below w.heap.size w w' := by
  have hu25 := Try.underlying25
  have hu29 := Try.underlying29
  have HB := Aside0.mk (Below.refl w.heap.size w)
  have H : ((impl_arePoints.f k a0_0 a0_1 (([(⟨a2_0, a2_1⟩ : S29)] : List (S29)))).bind fun t164 => (if t164 = true then ((impl_within.f a1 0 100000).bind fun t165 => (impl_TimesPoint.j0 k a1 (!t165) a0_0 a0_1 a2_0 a2_1)) else (impl_TimesPoint.j0 k a1 true a0_0 a0_1 a2_0 a2_1))) = some (r1, r2, r3) := h
  clear h
  have HC4 := Aside0.mk H
  clear H
  go_enter Try.func33, Try.ntmps33
  go_upto_region 1 with (first | ((with_reducible refine gate_dst (N := 3) rfl ?_); refine box_event ?hg (N := 3) ?hd (cs := #[.int .i64 a0_0, .int .i64 a0_1]) (t := 25) ?hr ?_; (case hd => rfl); (case hg => rfl); (case hr => first | (go_simp; done) | (go_simp; rfl)); intro gb158 hg w5 hbox hb; have n0_ := Aside0.mk (below_step (by repeat (first | (with_reducible first | exact HB.out | apply below_alloc | apply pw_below_drewN | apply below_drew1) | exact HB.out)) hb); have n1_ := Aside0.mk (hbox); have n2_ := Aside0.mk ((by rw [hg]; exact (below_size (by repeat (first | (with_reducible first | exact HB.out | apply below_alloc | apply pw_below_drewN | apply below_drew1) | exact HB.out))) : w.heap.size ≤ gb158)); have n3_ := Aside0.mk ((by rw [hg]; exact (below_size (by repeat (first | (with_reducible first | exact HB.out | apply below_alloc | apply pw_below_drewN | apply below_drew1) | exact HB.out))) : w.heap.size ≤ gb158)); clear HB; have HB := n0_; have BK158 := n1_; have GW158 := n2_; have GE158 := n3_; clear n0_ n1_ n2_ n3_; clear hb hbox hg) | ((with_reducible refine gate_dst (N := 5) rfl ?_); refine box_event ?hg (N := 5) ?hd (cs := #[.int .i64 a2_0, .int .i64 a2_1]) (t := 29) ?hr ?_; (case hd => rfl); (case hg => rfl); (case hr => first | (go_simp; done) | (go_simp; rfl)); intro gb159 hg w6 hbox hb; have n0_ := Aside0.mk (blk_below (g := gb158) (o := .cells #[.int .i64 a0_0, .int .i64 a0_1] 25 (0, 0)) (by (with_reducible repeat (first | refine blk_drewN ?_ _ | refine blk_drew ?_ | refine blk_alloc ?_ _)); exact BK158.out) hb); have n1_ := Aside0.mk (below_step (by repeat (first | (with_reducible first | exact HB.out | apply below_alloc | apply pw_below_drewN | apply below_drew1 | refine below_set ?_ GE158.out) | exact HB.out)) hb); have n2_ := Aside0.mk (hbox); have n3_ := Aside0.mk ((by rw [hg]; exact (below_size (by repeat (first | (with_reducible first | exact HB.out | apply below_alloc | apply pw_below_drewN | apply below_drew1 | refine below_set ?_ GE158.out) | exact HB.out))) : w.heap.size ≤ gb159)); have n4_ := Aside0.mk ((by rw [hg]; exact (below_size (by repeat (first | (with_reducible first | exact HB.out | apply below_alloc | apply pw_below_drewN | apply below_drew1 | refine below_set ?_ GE158.out) | exact HB.out))) : w.heap.size ≤ gb159)); have n5_ := Aside0.mk ((by rw [hg]; exact Nat.ne_of_lt (blk_lt (g := gb158) (o := .cells #[.int .i64 a0_0, .int .i64 a0_1] 25 (0, 0)) (by (with_reducible repeat (first | refine blk_drewN ?_ _ | refine blk_drew ?_ | refine blk_alloc ?_ _)); exact BK158.out)) : gb158 ≠ gb159)); have n6_ := Aside0.mk ((by rw [hg]; exact Nat.ne_of_gt (blk_lt (g := gb158) (o := .cells #[.int .i64 a0_0, .int .i64 a0_1] 25 (0, 0)) (by (with_reducible repeat (first | refine blk_drewN ?_ _ | refine blk_drew ?_ | refine blk_alloc ?_ _)); exact BK158.out)) : gb159 ≠ gb158)); clear BK158; clear HB; have BK158 := n0_; have HB := n1_; have BK159 := n2_; have GW159 := n3_; have GE159 := n4_; have NB158_159 := n5_; have NB159_158 := n6_; clear n0_ n1_ n2_ n3_ n4_ n5_ n6_; clear hb hbox hg) | ((with_reducible refine gate_dst (N := 6) rfl ?_); refine box_event ?hg (N := 6) ?hd (cs := #[.int .i64 0, .int .i64 0]) (t := 29) ?hr ?_; (case hd => rfl); (case hg => rfl); (case hr => first | (go_simp; done) | (go_simp; rfl)); intro gb160 hg w7 hbox hb; have n0_ := Aside0.mk (blk_below (g := gb158) (o := .cells #[.int .i64 a0_0, .int .i64 a0_1] 25 (0, 0)) (by (with_reducible repeat (first | refine blk_drewN ?_ _ | refine blk_drew ?_ | refine blk_alloc ?_ _)); exact BK158.out) hb); have n1_ := Aside0.mk (blk_below (g := gb159) (o := .cells #[.int .i64 a2_0, .int .i64 a2_1] 29 (0, 0)) (by (with_reducible repeat (first | refine blk_drewN ?_ _ | refine blk_drew ?_ | refine blk_alloc ?_ _)); exact BK159.out) hb); have n2_ := Aside0.mk (below_step (by repeat (first | (with_reducible first | exact HB.out | apply below_alloc | apply pw_below_drewN | apply below_drew1 | refine below_set ?_ GE158.out | refine below_set ?_ GE159.out) | exact HB.out)) hb); have n3_ := Aside0.mk (hbox); have n4_ := Aside0.mk ((by rw [hg]; exact (below_size (by repeat (first | (with_reducible first | exact HB.out | apply below_alloc | apply pw_below_drewN | apply below_drew1 | refine below_set ?_ GE158.out | refine below_set ?_ GE159.out) | exact HB.out))) : w.heap.size ≤ gb160)); have n5_ := Aside0.mk ((by rw [hg]; exact (below_size (by repeat (first | (with_reducible first | exact HB.out | apply below_alloc | apply pw_below_drewN | apply below_drew1 | refine below_set ?_ GE158.out | refine below_set ?_ GE159.out) | exact HB.out))) : w.heap.size ≤ gb160)); have n6_ := Aside0.mk ((by rw [hg]; exact Nat.ne_of_lt (blk_lt (g := gb158) (o := .cells #[.int .i64 a0_0, .int .i64 a0_1] 25 (0, 0)) (by (with_reducible repeat (first | refine blk_drewN ?_ _ | refine blk_drew ?_ | refine blk_alloc ?_ _)); exact BK158.out)) : gb158 ≠ gb160)); have n7_ := Aside0.mk ((by rw [hg]; exact Nat.ne_of_gt (blk_lt (g := gb158) (o := .cells #[.int .i64 a0_0, .int .i64 a0_1] 25 (0, 0)) (by (with_reducible repeat (first | refine blk_drewN ?_ _ | refine blk_drew ?_ | refine blk_alloc ?_ _)); exact BK158.out)) : gb160 ≠ gb158)); have n8_ := Aside0.mk ((by rw [hg]; exact Nat.ne_of_lt (blk_lt (g := gb159) (o := .cells #[.int .i64 a2_0, .int .i64 a2_1] 29 (0, 0)) (by (with_reducible repeat (first | refine blk_drewN ?_ _ | refine blk_drew ?_ | refine blk_alloc ?_ _)); exact BK159.out)) : gb159 ≠ gb160)); have n9_ := Aside0.mk ((by rw [hg]; exact Nat.ne_of_gt (blk_lt (g := gb159) (o := .cells #[.int .i64 a2_0, .int .i64 a2_1] 29 (0, 0)) (by (with_reducible repeat (first | refine blk_drewN ?_ _ | refine blk_drew ?_ | refine blk_alloc ?_ _)); exact BK159.out)) : gb160 ≠ gb159)); clear BK158; clear BK159; clear HB; have BK158 := n0_; have BK159 := n1_; have HB := n2_; have BK160 := n3_; have GW160 := n4_; have GE160 := n5_; have NB158_160 := n6_; have NB160_158 := n7_; have NB159_160 := n8_; have NB160_159 := n9_; clear n0_ n1_ n2_ n3_ n4_ n5_ n6_ n7_ n8_ n9_; clear hb hbox hg))
  (try simp only [Act.put, List.setIfInBounds_toArray, List.set_cons_zero, List.set_cons_succ])
  go_cut [18] (fun v18 wc => ∃ (kq : Nat) (x18_3 : Bool), v18 = .bool x18_3 ∧ Aside0 (impl_TimesPoint.j0 kq a1 x18_3 a0_0 a0_1 a2_0 a2_1 = some (r1, r2, r3)) ∧ Aside0 (kq ≤ k) ∧ Aside0 (wc.heap[gb158]? = some (.cells #[.int .i64 a0_0, .int .i64 a0_1] 25 (0, 0))) ∧ Aside0 (wc.heap[gb159]? = some (.cells #[.int .i64 a2_0, .int .i64 a2_1] 29 (0, 0))) ∧ Aside0 (wc.heap[gb160]? = some (.cells #[.int .i64 0, .int .i64 0] 29 (0, 0))) ∧ Aside0 (Below w.heap.size w wc))
  case first =>
    have H := HC4.out
    clear HC4
    obtain ⟨y161, hy161⟩ : ∃ y_ : List (S29), y_ = (([(⟨a2_0, a2_1⟩ : S29)] : List (S29))) := ⟨_, rfl⟩
    replace H : ((impl_arePoints.f k a0_0 a0_1 y161).bind fun t164 => (if t164 = true then ((impl_within.f a1 0 100000).bind fun t165 => (impl_TimesPoint.j0 k a1 (!t165) a0_0 a0_1 a2_0 a2_1)) else (impl_TimesPoint.j0 k a1 true a0_0 a0_1 a2_0 a2_1))) = some (r1, r2, r3) := by first | (rw [hy161]; with_reducible exact H) | (have H2_ := (Option.bind_some _ _).symm.trans H; rw [hy161]; with_reducible exact H2_) | (have H2_ := (Option.bind_some _ _).symm.trans H; with_reducible exact H2_) | with_reducible exact H | (rw [hy161]; exact H) | exact H
    have Ny161 := Aside0.mk hy161
    clear hy161
    replace H := Option.bind_eq_some_iff.mp H
    obtain ⟨t164, A80, H⟩ := H
    replace H : (if t164 = true then ((impl_within.f a1 0 100000).bind fun t165 => (impl_TimesPoint.j0 k a1 (!t165) a0_0 a0_1 a2_0 a2_1)) else (impl_TimesPoint.j0 k a1 true a0_0 a0_1 a2_0 a2_1)) = some (r1, r2, r3) := H
    have A8 := Aside0.mk A80
    clear A80
    by_cases c9 : t164 = true
    · subst c9
      have H1 : ((impl_within.f a1 0 100000).bind fun t165 => (impl_TimesPoint.j0 k a1 (!t165) a0_0 a0_1 a2_0 a2_1)) = some (r1, r2, r3) := by rw [if_pos rfl] at H; exact H
      clear H
      have H := H1
      clear H1
      replace H := Option.bind_eq_some_iff.mp H
      obtain ⟨t165, A100, H⟩ := H
      replace H : (impl_TimesPoint.j0 k a1 (!t165) a0_0 a0_1 a2_0 a2_1) = some (r1, r2, r3) := H
      have A10 := Aside0.mk A100
      clear A100
      have H' := Aside0.mk H
      clear H
      have hnb11 := NB158_159.out
      have hnc11 := NB159_158.out
      have hnb12 := NB158_160.out
      have hnc12 := NB160_158.out
      have hcz13_0 : w7.cell? ⟨gb158, 0, none⟩ = some (.int .i64 a0_0) := (blk_cell BK158.out 0).trans rfl
      have hcz13_1 : w7.cell? ⟨gb158, 1, none⟩ = some (.int .i64 a0_1) := (blk_cell BK158.out 1).trans rfl
      have hfz13_0 := blk_frozen BK158.out 0
      have hfz13_1 := blk_frozen BK158.out 1
      have hnb14 := NB159_160.out
      have hnc14 := NB160_159.out
      have hcz15_0 : w7.cell? ⟨gb159, 0, none⟩ = some (.int .i64 a2_0) := (blk_cell BK159.out 0).trans rfl
      have hcz15_1 : w7.cell? ⟨gb159, 1, none⟩ = some (.int .i64 a2_1) := (blk_cell BK159.out 1).trans rfl
      have hfz15_0 := blk_frozen BK159.out 0
      have hfz15_1 := blk_frozen BK159.out 1
      go_wp2_with (first | ((with_reducible refine gate_dst (N := 11) rfl ?_); refine Kd.R_lit k29 _ 29 ?hg (N := 11) ?hd (xs := ([(⟨a2_0, a2_1⟩ : S29)] : List (S29))) (inner := [.int .i64 a2_0, .int .i64 a2_1]) (ok := fun _ => True) (okp := fun _ => True) ?hr ?hp (fun _ hk => hk) trivial (Below.refl _ _) (Nat.le_refl _) (by simp) ?_; (case hd => rfl); (case hg => rfl); (case hr => first | (go_simp; done) | (go_simp; rfl)); (case hp => exact (Reps.c2 (show Kd.M k29 _ _ _ (⟨a2_0, a2_1⟩ : S29) [.int .i64 a2_0, .int .i64 a2_1] from (k29_mkM _ _ _ (⟨a2_0, a2_1⟩ : S29) )) (Reps.none _ _))); intro v162 w16 ho17 hb hg_ hnew_; clear hg_ hnew_; (first | rw [← Ny161.out] at ho17 | (simp only [Int.reduceToNat] at ho17; rw [← Ny161.out] at ho17)); have n0_ := Aside0.mk (Kd.R_lower (Kd.R_newB (Kd.R_newB ho17 (g := gb159) (o := .cells #[.int .i64 a2_0, .int .i64 a2_1] 29 (0, 0)) (by (with_reducible repeat (first | refine blk_drewN ?_ _ | refine blk_drew ?_ | refine blk_alloc ?_ _)); exact BK159.out)) (g := gb160) (o := .cells #[.int .i64 0, .int .i64 0] 29 (0, 0)) (by (with_reducible repeat (first | refine blk_drewN ?_ _ | refine blk_drew ?_ | refine blk_alloc ?_ _)); exact BK160.out)) (below_size (by repeat (first | (with_reducible first | exact HB.out | apply below_alloc | apply pw_below_drewN | apply below_drew1 | refine below_set ?_ GE158.out | refine below_set ?_ GE159.out | refine below_set ?_ GE160.out) | exact HB.out)))); have n1_ := Aside0.mk (blk_below (g := gb158) (o := .cells #[.int .i64 a0_0, .int .i64 a0_1] 25 (0, 0)) (by (with_reducible repeat (first | refine blk_drewN ?_ _ | refine blk_drew ?_ | refine blk_alloc ?_ _)); exact BK158.out) hb); have n2_ := Aside0.mk (blk_below (g := gb159) (o := .cells #[.int .i64 a2_0, .int .i64 a2_1] 29 (0, 0)) (by (with_reducible repeat (first | refine blk_drewN ?_ _ | refine blk_drew ?_ | refine blk_alloc ?_ _)); exact BK159.out) hb); have n3_ := Aside0.mk (blk_below (g := gb160) (o := .cells #[.int .i64 0, .int .i64 0] 29 (0, 0)) (by (with_reducible repeat (first | refine blk_drewN ?_ _ | refine blk_drew ?_ | refine blk_alloc ?_ _)); exact BK160.out) hb); have n4_ := Aside0.mk (below_step (by repeat (first | (with_reducible first | exact HB.out | apply below_alloc | apply pw_below_drewN | apply below_drew1 | refine below_set ?_ GE158.out | refine below_set ?_ GE159.out | refine below_set ?_ GE160.out) | exact HB.out)) hb); clear BK158; clear BK159; clear BK160; clear HB; have HO163 := n0_; have BK158 := n1_; have BK159 := n2_; have BK160 := n3_; have HB := n4_; clear n0_ n1_ n2_ n3_ n4_; clear hb ho17; obtain ⟨Ao18, co18, eo18⟩ := Kd.R_slice HO163.out; subst eo18) | ((with_reducible refine gate_callee (f := 46) rfl ?_); refine goesL_ (some 12) rfl rfl Try.func46 (by kernel_rfl) rfl #[.agg #[.int .i64 a0_0, .int .i64 a0_1], .slice Ao18 y161.length co18] rfl (by (try simp only [List.map_toArray, List.map_cons, List.map_nil]); first | done | rfl | (simp only [List.length_drop, List.length_take]; rfl)) ?_; (with_reducible refine (impl_arePoints.calls k a0_0 a0_1 _ _ y161 true _ ?side1 ?side2 A8.out).mono ?_); (case side1 => repeat (first | exact (Kd.R_reads' HO163.out).2.2 | (with_reducible refine Kd.C_alloc ?_ _) | (with_reducible refine Kd.C_drewN ?_ _) | (with_reducible refine Kd.C_drew ?_))); (case side2 => exact (Kd.R_reads' HO163.out).2.1); rintro e w19 ⟨rfl, hb⟩; refine ⟨_, rfl, ?_⟩; have n0_ := Aside0.mk (Kd.R_below (by (with_reducible repeat (first | apply Kd.R_alloc | apply Kd.R_drewN | apply Kd.R_drew)); exact HO163.out) hb); have n1_ := Aside0.mk (blk_below (g := gb158) (o := .cells #[.int .i64 a0_0, .int .i64 a0_1] 25 (0, 0)) (by (with_reducible repeat (first | refine blk_drewN ?_ _ | refine blk_drew ?_ | refine blk_alloc ?_ _)); exact BK158.out) hb); have n2_ := Aside0.mk (blk_below (g := gb159) (o := .cells #[.int .i64 a2_0, .int .i64 a2_1] 29 (0, 0)) (by (with_reducible repeat (first | refine blk_drewN ?_ _ | refine blk_drew ?_ | refine blk_alloc ?_ _)); exact BK159.out) hb); have n3_ := Aside0.mk (blk_below (g := gb160) (o := .cells #[.int .i64 0, .int .i64 0] 29 (0, 0)) (by (with_reducible repeat (first | refine blk_drewN ?_ _ | refine blk_drew ?_ | refine blk_alloc ?_ _)); exact BK160.out) hb); have n4_ := Aside0.mk (below_step (by repeat (first | (with_reducible first | exact HB.out | apply below_alloc | apply pw_below_drewN | apply below_drew1 | refine below_set ?_ GE158.out | refine below_set ?_ GE159.out | refine below_set ?_ GE160.out) | exact HB.out)) hb); clear HO163; clear BK158; clear BK159; clear BK160; clear HB; have HO163 := n0_; have BK158 := n1_; have BK159 := n2_; have BK160 := n3_; have HB := n4_; clear n0_ n1_ n2_ n3_ n4_; (try clear hb); (try clear hb2); (try clear hk); (try clear hi)) | (go_at_call 42; (with_reducible refine (impl_within.calls a1 0 100000 t165 _ A10.out).mono ?_); rintro e w' ⟨rfl, ⟨nd, rfl⟩⟩))
      go_meet
      case rel => exact ⟨_, (!t165), (by first | rfl | (simp; done) | (simp [*]; done)), H', ⟨by first | omega | exact Nat.le_refl _⟩, ⟨by (with_reducible repeat (first | refine blk_drewN ?_ _ | refine blk_drew ?_ | refine blk_alloc ?_ _)); exact BK158.out⟩, ⟨by (with_reducible repeat (first | refine blk_drewN ?_ _ | refine blk_drew ?_ | refine blk_alloc ?_ _)); exact BK159.out⟩, ⟨by (with_reducible repeat (first | refine blk_drewN ?_ _ | refine blk_drew ?_ | refine blk_alloc ?_ _)); exact BK160.out⟩, ⟨by repeat (first | (with_reducible first | exact HB.out | apply below_alloc | apply pw_below_drewN | apply below_drew1 | refine below_set ?_ GE158.out | refine below_set ?_ GE159.out | refine below_set ?_ GE160.out) | exact HB.out)⟩⟩
    · replace c9 := Bool.eq_false_iff.mpr c9
      subst c9
      have H1 : (impl_TimesPoint.j0 k a1 true a0_0 a0_1 a2_0 a2_1) = some (r1, r2, r3) := by rw [if_neg (show ¬ (false = true) by decide)] at H; exact H
      clear H
      have H := H1
      clear H1
      have H' := Aside0.mk H
      clear H
      have hnb20 := NB158_159.out
      have hnc20 := NB159_158.out
      have hnb21 := NB158_160.out
      have hnc21 := NB160_158.out
      have hcz22_0 : w7.cell? ⟨gb158, 0, none⟩ = some (.int .i64 a0_0) := (blk_cell BK158.out 0).trans rfl
      have hcz22_1 : w7.cell? ⟨gb158, 1, none⟩ = some (.int .i64 a0_1) := (blk_cell BK158.out 1).trans rfl
      have hfz22_0 := blk_frozen BK158.out 0
      have hfz22_1 := blk_frozen BK158.out 1
      have hnb23 := NB159_160.out
      have hnc23 := NB160_159.out
      have hcz24_0 : w7.cell? ⟨gb159, 0, none⟩ = some (.int .i64 a2_0) := (blk_cell BK159.out 0).trans rfl
      have hcz24_1 : w7.cell? ⟨gb159, 1, none⟩ = some (.int .i64 a2_1) := (blk_cell BK159.out 1).trans rfl
      have hfz24_0 := blk_frozen BK159.out 0
      have hfz24_1 := blk_frozen BK159.out 1
      go_wp2_with (first | ((with_reducible refine gate_dst (N := 11) rfl ?_); refine Kd.R_lit k29 _ 29 ?hg (N := 11) ?hd (xs := ([(⟨a2_0, a2_1⟩ : S29)] : List (S29))) (inner := [.int .i64 a2_0, .int .i64 a2_1]) (ok := fun _ => True) (okp := fun _ => True) ?hr ?hp (fun _ hk => hk) trivial (Below.refl _ _) (Nat.le_refl _) (by simp) ?_; (case hd => rfl); (case hg => rfl); (case hr => first | (go_simp; done) | (go_simp; rfl)); (case hp => exact (Reps.c2 (show Kd.M k29 _ _ _ (⟨a2_0, a2_1⟩ : S29) [.int .i64 a2_0, .int .i64 a2_1] from (k29_mkM _ _ _ (⟨a2_0, a2_1⟩ : S29) )) (Reps.none _ _))); intro v162 w25 ho26 hb hg_ hnew_; clear hg_ hnew_; (first | rw [← Ny161.out] at ho26 | (simp only [Int.reduceToNat] at ho26; rw [← Ny161.out] at ho26)); have n0_ := Aside0.mk (Kd.R_lower (Kd.R_newB (Kd.R_newB ho26 (g := gb159) (o := .cells #[.int .i64 a2_0, .int .i64 a2_1] 29 (0, 0)) (by (with_reducible repeat (first | refine blk_drewN ?_ _ | refine blk_drew ?_ | refine blk_alloc ?_ _)); exact BK159.out)) (g := gb160) (o := .cells #[.int .i64 0, .int .i64 0] 29 (0, 0)) (by (with_reducible repeat (first | refine blk_drewN ?_ _ | refine blk_drew ?_ | refine blk_alloc ?_ _)); exact BK160.out)) (below_size (by repeat (first | (with_reducible first | exact HB.out | apply below_alloc | apply pw_below_drewN | apply below_drew1 | refine below_set ?_ GE158.out | refine below_set ?_ GE159.out | refine below_set ?_ GE160.out) | exact HB.out)))); have n1_ := Aside0.mk (blk_below (g := gb158) (o := .cells #[.int .i64 a0_0, .int .i64 a0_1] 25 (0, 0)) (by (with_reducible repeat (first | refine blk_drewN ?_ _ | refine blk_drew ?_ | refine blk_alloc ?_ _)); exact BK158.out) hb); have n2_ := Aside0.mk (blk_below (g := gb159) (o := .cells #[.int .i64 a2_0, .int .i64 a2_1] 29 (0, 0)) (by (with_reducible repeat (first | refine blk_drewN ?_ _ | refine blk_drew ?_ | refine blk_alloc ?_ _)); exact BK159.out) hb); have n3_ := Aside0.mk (blk_below (g := gb160) (o := .cells #[.int .i64 0, .int .i64 0] 29 (0, 0)) (by (with_reducible repeat (first | refine blk_drewN ?_ _ | refine blk_drew ?_ | refine blk_alloc ?_ _)); exact BK160.out) hb); have n4_ := Aside0.mk (below_step (by repeat (first | (with_reducible first | exact HB.out | apply below_alloc | apply pw_below_drewN | apply below_drew1 | refine below_set ?_ GE158.out | refine below_set ?_ GE159.out | refine below_set ?_ GE160.out) | exact HB.out)) hb); clear BK158; clear BK159; clear BK160; clear HB; have HO163 := n0_; have BK158 := n1_; have BK159 := n2_; have BK160 := n3_; have HB := n4_; clear n0_ n1_ n2_ n3_ n4_; clear hb ho26; obtain ⟨Ao27, co27, eo27⟩ := Kd.R_slice HO163.out; subst eo27) | ((with_reducible refine gate_callee (f := 46) rfl ?_); refine goesL_ (some 12) rfl rfl Try.func46 (by kernel_rfl) rfl #[.agg #[.int .i64 a0_0, .int .i64 a0_1], .slice Ao27 y161.length co27] rfl (by (try simp only [List.map_toArray, List.map_cons, List.map_nil]); first | done | rfl | (simp only [List.length_drop, List.length_take]; rfl)) ?_; (with_reducible refine (impl_arePoints.calls k a0_0 a0_1 _ _ y161 false _ ?side1 ?side2 A8.out).mono ?_); (case side1 => repeat (first | exact (Kd.R_reads' HO163.out).2.2 | (with_reducible refine Kd.C_alloc ?_ _) | (with_reducible refine Kd.C_drewN ?_ _) | (with_reducible refine Kd.C_drew ?_))); (case side2 => exact (Kd.R_reads' HO163.out).2.1); rintro e w28 ⟨rfl, hb⟩; refine ⟨_, rfl, ?_⟩; have n0_ := Aside0.mk (Kd.R_below (by (with_reducible repeat (first | apply Kd.R_alloc | apply Kd.R_drewN | apply Kd.R_drew)); exact HO163.out) hb); have n1_ := Aside0.mk (blk_below (g := gb158) (o := .cells #[.int .i64 a0_0, .int .i64 a0_1] 25 (0, 0)) (by (with_reducible repeat (first | refine blk_drewN ?_ _ | refine blk_drew ?_ | refine blk_alloc ?_ _)); exact BK158.out) hb); have n2_ := Aside0.mk (blk_below (g := gb159) (o := .cells #[.int .i64 a2_0, .int .i64 a2_1] 29 (0, 0)) (by (with_reducible repeat (first | refine blk_drewN ?_ _ | refine blk_drew ?_ | refine blk_alloc ?_ _)); exact BK159.out) hb); have n3_ := Aside0.mk (blk_below (g := gb160) (o := .cells #[.int .i64 0, .int .i64 0] 29 (0, 0)) (by (with_reducible repeat (first | refine blk_drewN ?_ _ | refine blk_drew ?_ | refine blk_alloc ?_ _)); exact BK160.out) hb); have n4_ := Aside0.mk (below_step (by repeat (first | (with_reducible first | exact HB.out | apply below_alloc | apply pw_below_drewN | apply below_drew1 | refine below_set ?_ GE158.out | refine below_set ?_ GE159.out | refine below_set ?_ GE160.out) | exact HB.out)) hb); clear HO163; clear BK158; clear BK159; clear BK160; clear HB; have HO163 := n0_; have BK158 := n1_; have BK159 := n2_; have BK160 := n3_; have HB := n4_; clear n0_ n1_ n2_ n3_ n4_; (try clear hb); (try clear hb2); (try clear hk); (try clear hi)))
      go_meet
      case rel => exact ⟨_, (true), (by first | rfl | (simp; done) | (simp [*]; done)), H', ⟨by first | omega | exact Nat.le_refl _⟩, ⟨by (with_reducible repeat (first | refine blk_drewN ?_ _ | refine blk_drew ?_ | refine blk_alloc ?_ _)); exact BK158.out⟩, ⟨by (with_reducible repeat (first | refine blk_drewN ?_ _ | refine blk_drew ?_ | refine blk_alloc ?_ _)); exact BK159.out⟩, ⟨by (with_reducible repeat (first | refine blk_drewN ?_ _ | refine blk_drew ?_ | refine blk_alloc ?_ _)); exact BK160.out⟩, ⟨by repeat (first | (with_reducible first | exact HB.out | apply below_alloc | apply pw_below_drewN | apply below_drew1 | refine below_set ?_ GE158.out | refine below_set ?_ GE159.out | refine below_set ?_ GE160.out) | exact HB.out)⟩⟩
  case rest =>
    clear HC4
    try clear c1
    try clear c2
    try clear p2
    try clear c3
    try clear c4
    try clear c9
    try clear c11
    try clear c12
    try clear c14
    try clear c20
    try clear c21
    try clear c23
    try clear hcz13_0
    try clear hcz13_1
    try clear hcz15_0
    try clear hcz15_1
    try clear hcz22_0
    try clear hcz22_1
    try clear hcz24_0
    try clear hcz24_1
    try clear hfz13_0
    try clear hfz13_1
    try clear hfz15_0
    try clear hfz15_1
    try clear hfz22_0
    try clear hfz22_1
    try clear hfz24_0
    try clear hfz24_1
    obtain ⟨kq, x18_3, rfl, HA, HJ3, BK158, BK159, BK160, HB⟩ := hcut
    cases kq with
    | zero => exact absurd HA.out (by simp [impl_TimesPoint.j0])
    | succ kj3 =>
      have H := HA.out
      clear HA
      simp only [impl_TimesPoint.j0] at H
      by_cases c29 : x18_3 = true
      · subst c29
        have H1 : (some (0, 0, false)) = some (r1, r2, r3) := by rw [if_pos rfl] at H; exact H
        clear H
        have H := H1
        clear H1
        simp only [Option.some.injEq, Prod.mk.injEq] at H
        obtain ⟨rfl, rfl, rfl⟩ := H
        have hnb30 := NB160_158.out
        have hnc30 := NB158_160.out
        have hnb31 := NB160_159.out
        have hnc31 := NB159_160.out
        have hcz32_0 : wc.cell? ⟨gb160, 0, none⟩ = some (.int .i64 0) := (blk_cell BK160.out 0).trans rfl
        have hcz32_1 : wc.cell? ⟨gb160, 1, none⟩ = some (.int .i64 0) := (blk_cell BK160.out 1).trans rfl
        have hfz32_0 := blk_frozen BK160.out 0
        have hfz32_1 := blk_frozen BK160.out 1
        go_wp2
        refine bodyPost_ret (results_ct rfl _ _ gb160 29 #[.int .i64 0, .int .i64 0] (0, 0) _ rfl (by (with_reducible repeat (first | refine blk_drewN ?_ _ | refine blk_drew ?_ | refine blk_alloc ?_ _)); refine blk_put (cs := #[.int .i64 0, .int .i64 0]) ?_ 1 _ rfl; (with_reducible repeat (first | refine blk_drewN ?_ _ | refine blk_drew ?_ | refine blk_alloc ?_ _)); refine blk_put (cs := #[.int .i64 0, .int .i64 0]) ?_ 0 _ rfl; (with_reducible repeat (first | refine blk_drewN ?_ _ | refine blk_drew ?_ | refine blk_alloc ?_ _)); exact BK160.out) Try.underlying29 rfl (by kernel_rfl)) rfl ?_
        exact ⟨by first | rfl | (simp [errW_none, errW_some] <;> rfl) | (simp [*, errW_none, errW_some] <;> rfl), by repeat (first | (with_reducible first | exact HB.out | apply below_alloc | apply pw_below_drewN | apply below_drew1 | refine below_set ?_ GE158.out | refine below_set ?_ GE159.out | refine below_set ?_ GE160.out) | exact HB.out)⟩
      · replace c29 := Bool.eq_false_iff.mpr c29
        subst c29
        have H1 : (impl_TimesPoint.l0 kj3 a1 a0_0 a0_1 a2_0 a2_1 0 1) = some (r1, r2, r3) := by rw [if_neg (show ¬ (false = true) by decide)] at H; exact H
        clear H
        have H := H1
        clear H1
        have H' := Aside0.mk H
        clear H
        go_wp2_with (first | ((with_reducible refine gate_dst (N := 8) rfl ?_); refine box_event ?hg (N := 8) ?hd (cs := #[.int .i64 0, .int .i64 0]) (t := 29) ?hr ?_; (case hd => rfl); (case hg => rfl); (case hr => first | (go_simp; done) | (go_simp; rfl)); intro gb166 hg w33 hbox hb; have n0_ := Aside0.mk (blk_below (g := gb158) (o := .cells #[.int .i64 a0_0, .int .i64 a0_1] 25 (0, 0)) (by (with_reducible repeat (first | refine blk_drewN ?_ _ | refine blk_drew ?_ | refine blk_alloc ?_ _)); exact BK158.out) hb); have n1_ := Aside0.mk (blk_below (g := gb159) (o := .cells #[.int .i64 a2_0, .int .i64 a2_1] 29 (0, 0)) (by (with_reducible repeat (first | refine blk_drewN ?_ _ | refine blk_drew ?_ | refine blk_alloc ?_ _)); exact BK159.out) hb); have n2_ := Aside0.mk (blk_below (g := gb160) (o := .cells #[.int .i64 0, .int .i64 0] 29 (0, 0)) (by (with_reducible repeat (first | refine blk_drewN ?_ _ | refine blk_drew ?_ | refine blk_alloc ?_ _)); exact BK160.out) hb); have n3_ := Aside0.mk (below_step (by repeat (first | (with_reducible first | exact HB.out | apply below_alloc | apply pw_below_drewN | apply below_drew1 | refine below_set ?_ GE158.out | refine below_set ?_ GE159.out | refine below_set ?_ GE160.out) | exact HB.out)) hb); have n4_ := Aside0.mk (hbox); have n5_ := Aside0.mk ((by rw [hg]; exact (below_size (by repeat (first | (with_reducible first | exact HB.out | apply below_alloc | apply pw_below_drewN | apply below_drew1 | refine below_set ?_ GE158.out | refine below_set ?_ GE159.out | refine below_set ?_ GE160.out) | exact HB.out))) : w.heap.size ≤ gb166)); have n6_ := Aside0.mk ((by rw [hg]; exact (below_size (by repeat (first | (with_reducible first | exact HB.out | apply below_alloc | apply pw_below_drewN | apply below_drew1 | refine below_set ?_ GE158.out | refine below_set ?_ GE159.out | refine below_set ?_ GE160.out) | exact HB.out))) : w.heap.size ≤ gb166)); have n7_ := Aside0.mk ((by rw [hg]; exact Nat.ne_of_lt (blk_lt (g := gb158) (o := .cells #[.int .i64 a0_0, .int .i64 a0_1] 25 (0, 0)) (by (with_reducible repeat (first | refine blk_drewN ?_ _ | refine blk_drew ?_ | refine blk_alloc ?_ _)); exact BK158.out)) : gb158 ≠ gb166)); have n8_ := Aside0.mk ((by rw [hg]; exact Nat.ne_of_gt (blk_lt (g := gb158) (o := .cells #[.int .i64 a0_0, .int .i64 a0_1] 25 (0, 0)) (by (with_reducible repeat (first | refine blk_drewN ?_ _ | refine blk_drew ?_ | refine blk_alloc ?_ _)); exact BK158.out)) : gb166 ≠ gb158)); have n9_ := Aside0.mk ((by rw [hg]; exact Nat.ne_of_lt (blk_lt (g := gb159) (o := .cells #[.int .i64 a2_0, .int .i64 a2_1] 29 (0, 0)) (by (with_reducible repeat (first | refine blk_drewN ?_ _ | refine blk_drew ?_ | refine blk_alloc ?_ _)); exact BK159.out)) : gb159 ≠ gb166)); have n10_ := Aside0.mk ((by rw [hg]; exact Nat.ne_of_gt (blk_lt (g := gb159) (o := .cells #[.int .i64 a2_0, .int .i64 a2_1] 29 (0, 0)) (by (with_reducible repeat (first | refine blk_drewN ?_ _ | refine blk_drew ?_ | refine blk_alloc ?_ _)); exact BK159.out)) : gb166 ≠ gb159)); have n11_ := Aside0.mk ((by rw [hg]; exact Nat.ne_of_lt (blk_lt (g := gb160) (o := .cells #[.int .i64 0, .int .i64 0] 29 (0, 0)) (by (with_reducible repeat (first | refine blk_drewN ?_ _ | refine blk_drew ?_ | refine blk_alloc ?_ _)); exact BK160.out)) : gb160 ≠ gb166)); have n12_ := Aside0.mk ((by rw [hg]; exact Nat.ne_of_gt (blk_lt (g := gb160) (o := .cells #[.int .i64 0, .int .i64 0] 29 (0, 0)) (by (with_reducible repeat (first | refine blk_drewN ?_ _ | refine blk_drew ?_ | refine blk_alloc ?_ _)); exact BK160.out)) : gb166 ≠ gb160)); clear BK158; clear BK159; clear BK160; clear HB; have BK158 := n0_; have BK159 := n1_; have BK160 := n2_; have HB := n3_; have BK166 := n4_; have GW166 := n5_; have GE166 := n6_; have NB158_166 := n7_; have NB166_158 := n8_; have NB159_166 := n9_; have NB166_159 := n10_; have NB160_166 := n11_; have NB166_160 := n12_; clear n0_ n1_ n2_ n3_ n4_ n5_ n6_ n7_ n8_ n9_ n10_ n11_ n12_; clear hb hbox hg; have hnb34 := NB166_158.out; have hnc34 := NB158_166.out; have hnb35 := NB166_159.out; have hnc35 := NB159_166.out; have hnb36 := NB166_160.out; have hnc36 := NB160_166.out; have hcz37_0 : w33.cell? ⟨gb166, 0, none⟩ = some (.int .i64 0) := (blk_cell BK166.out 0).trans rfl; have hcz37_1 : w33.cell? ⟨gb166, 1, none⟩ = some (.int .i64 0) := (blk_cell BK166.out 1).trans rfl; have hfz37_0 := blk_frozen BK166.out 0; have hfz37_1 := blk_frozen BK166.out 1))
        go_loopg [1] kj3 (fun kq v1 w' => ∃ (x1_2 : Int) (x160000_2 : Int) (x160001_2 : Int) (x167000_2 : Int) (x167001_2 : Int), v1 = .int .i64 x1_2 ∧ Aside0 (impl_TimesPoint.l0 kq x1_2 a0_0 a0_1 x160000_2 x160001_2 x167000_2 x167001_2 = some (r1, r2, r3)) ∧ Aside0 (kq ≤ kj3) ∧ Aside0 (w'.heap[gb158]? = some (.cells #[.int .i64 a0_0, .int .i64 a0_1] 25 (0, 0))) ∧ Aside0 (w'.heap[gb159]? = some (.cells #[.int .i64 x160000_2, .int .i64 x160001_2] 29 (0, 0))) ∧ Aside0 (w'.heap[gb160]? = some (.cells #[.int .i64 0, .int .i64 0] 29 (0, 0))) ∧ Aside0 (w'.heap[gb166]? = some (.cells #[.int .i64 x167000_2, .int .i64 x167001_2] 29 (0, 0))) ∧ Aside0 (Below w.heap.size w w'))
        case atStart => exact ⟨(a1), (a2_0), (a2_1), (0), (1), (by first | rfl | (simp; done) | (simp [*]; done)), H', ⟨Nat.le_refl _⟩, ⟨by (with_reducible repeat (first | refine blk_drewN ?_ _ | refine blk_drew ?_ | refine blk_alloc ?_ _)); refine blk_far ?_ NB158_166.out _; (with_reducible repeat (first | refine blk_drewN ?_ _ | refine blk_drew ?_ | refine blk_alloc ?_ _)); refine blk_far ?_ NB158_166.out _; (with_reducible repeat (first | refine blk_drewN ?_ _ | refine blk_drew ?_ | refine blk_alloc ?_ _)); exact BK158.out⟩, ⟨by (with_reducible repeat (first | refine blk_drewN ?_ _ | refine blk_drew ?_ | refine blk_alloc ?_ _)); refine blk_far ?_ NB159_166.out _; (with_reducible repeat (first | refine blk_drewN ?_ _ | refine blk_drew ?_ | refine blk_alloc ?_ _)); refine blk_far ?_ NB159_166.out _; (with_reducible repeat (first | refine blk_drewN ?_ _ | refine blk_drew ?_ | refine blk_alloc ?_ _)); exact BK159.out⟩, ⟨by (with_reducible repeat (first | refine blk_drewN ?_ _ | refine blk_drew ?_ | refine blk_alloc ?_ _)); refine blk_far ?_ NB160_166.out _; (with_reducible repeat (first | refine blk_drewN ?_ _ | refine blk_drew ?_ | refine blk_alloc ?_ _)); refine blk_far ?_ NB160_166.out _; (with_reducible repeat (first | refine blk_drewN ?_ _ | refine blk_drew ?_ | refine blk_alloc ?_ _)); exact BK160.out⟩, ⟨by (with_reducible repeat (first | refine blk_drewN ?_ _ | refine blk_drew ?_ | refine blk_alloc ?_ _)); refine blk_put (cs := #[.int .i64 0, .int .i64 0]) ?_ 1 _ rfl; (with_reducible repeat (first | refine blk_drewN ?_ _ | refine blk_drew ?_ | refine blk_alloc ?_ _)); refine blk_put (cs := #[.int .i64 0, .int .i64 0]) ?_ 0 _ rfl; (with_reducible repeat (first | refine blk_drewN ?_ _ | refine blk_drew ?_ | refine blk_alloc ?_ _)); exact BK166.out⟩, ⟨by repeat (first | (with_reducible first | exact HB.out | apply below_alloc | apply pw_below_drewN | apply below_drew1 | refine below_set ?_ GE158.out | refine below_set ?_ GE159.out | refine below_set ?_ GE160.out | refine below_set ?_ GE166.out) | exact HB.out)⟩⟩
        case round =>
          clear H'
          try clear c1
          try clear c2
          try clear p2
          try clear c3
          try clear c4
          try clear c9
          try clear c11
          try clear c12
          try clear c14
          try clear c20
          try clear c21
          try clear c23
          try clear c29
          try clear c30
          try clear c31
          try clear c33
          try clear c34
          try clear c35
          try clear c36
          try clear hcz13_0
          try clear hcz13_1
          try clear hcz15_0
          try clear hcz15_1
          try clear hcz22_0
          try clear hcz22_1
          try clear hcz24_0
          try clear hcz24_1
          try clear hcz32_0
          try clear hcz32_1
          try clear hcz37_0
          try clear hcz37_1
          try clear hfz13_0
          try clear hfz13_1
          try clear hfz15_0
          try clear hfz15_1
          try clear hfz22_0
          try clear hfz22_1
          try clear hfz24_0
          try clear hfz24_1
          try clear hfz32_0
          try clear hfz32_1
          try clear hfz37_0
          try clear hfz37_1
          try clear p2
          obtain ⟨x1_2, x160000_2, x160001_2, x167000_2, x167001_2, rfl, HA, HK2, BK158, BK159, BK160, BK166, HB⟩ := hrel
          cases gk with
          | zero => exact absurd HA.out (by simp [impl_TimesPoint.l0])
          | succ k2 =>
            have H := HA.out
            clear HA
            simp only [impl_TimesPoint.l0] at H
            by_cases c38 : x1_2 > 0
            · rw [if_pos c38] at H
              have c38b0 : decide (0 < x1_2) = true := decide_eq_true c38
              clear c38
              by_cases c39 : (Int.tmod x1_2 2) = 1
              · rw [if_pos c39] at H
                have c39b0 : ((Int.tmod x1_2 2) == 1) = true := beq_iff_eq.mpr c39
                have c39b1 : ((Int.tmod x1_2 2) != 1) = false := bne_eq_false_iff_eq.mpr c39
                clear c39
                replace H := Option.bind_eq_some_iff.mp H
                obtain ⟨⟨t167, t168⟩, A400, H⟩ := H
                replace H : ((impl_addPoints.f k2 a0_0 a0_1 x160000_2 x160001_2 x160000_2 x160001_2).bind fun bt169 => (impl_TimesPoint.l0 k2 (wrap64 (Int.tdiv x1_2 2)) a0_0 a0_1 bt169.1 bt169.2 t167 t168)) = some (r1, r2, r3) := H
                have A40 := Aside0.mk A400
                clear A400
                replace H := Option.bind_eq_some_iff.mp H
                obtain ⟨⟨t169, t170⟩, A410, H⟩ := H
                replace H : (impl_TimesPoint.l0 k2 (wrap64 (Int.tdiv x1_2 2)) a0_0 a0_1 t169 t170 t167 t168) = some (r1, r2, r3) := H
                have A41 := Aside0.mk A410
                clear A410
                have H' := Aside0.mk H
                clear H
                have hnb42 := NB158_159.out
                have hnc42 := NB159_158.out
                have hnb43 := NB158_160.out
                have hnc43 := NB160_158.out
                have hnb44 := NB158_166.out
                have hnc44 := NB166_158.out
                have hcz45_0 : wr.cell? ⟨gb158, 0, none⟩ = some (.int .i64 a0_0) := (blk_cell BK158.out 0).trans rfl
                have hcz45_1 : wr.cell? ⟨gb158, 1, none⟩ = some (.int .i64 a0_1) := (blk_cell BK158.out 1).trans rfl
                have hfz45_0 := blk_frozen BK158.out 0
                have hfz45_1 := blk_frozen BK158.out 1
                have hnb46 := NB166_159.out
                have hnc46 := NB159_166.out
                have hnb47 := NB166_160.out
                have hnc47 := NB160_166.out
                have hcz48_0 : wr.cell? ⟨gb166, 0, none⟩ = some (.int .i64 x167000_2) := (blk_cell BK166.out 0).trans rfl
                have hcz48_1 : wr.cell? ⟨gb166, 1, none⟩ = some (.int .i64 x167001_2) := (blk_cell BK166.out 1).trans rfl
                have hfz48_0 := blk_frozen BK166.out 0
                have hfz48_1 := blk_frozen BK166.out 1
                have hnb49 := NB159_160.out
                have hnc49 := NB160_159.out
                have hcz50_0 : wr.cell? ⟨gb159, 0, none⟩ = some (.int .i64 x160000_2) := (blk_cell BK159.out 0).trans rfl
                have hcz50_1 : wr.cell? ⟨gb159, 1, none⟩ = some (.int .i64 x160001_2) := (blk_cell BK159.out 1).trans rfl
                have hfz50_0 := blk_frozen BK159.out 0
                have hfz50_1 := blk_frozen BK159.out 1
                go_wp2_with (first | ((with_reducible refine gate_callee (f := 48) rfl ?_); refine goesL_ (some 31) rfl rfl Try.func48 (by kernel_rfl) rfl #[.agg #[.int .i64 a0_0, .int .i64 a0_1], .agg #[.int .i64 x167000_2, .int .i64 x167001_2], .agg #[.int .i64 x160000_2, .int .i64 x160001_2]] rfl (by (try simp only [List.map_toArray, List.map_cons, List.map_nil]); first | done | rfl | (simp only [List.length_drop, List.length_take]; rfl)) ?_; (with_reducible refine (impl_addPoints.calls k2 a0_0 a0_1 x167000_2 x167001_2 x160000_2 x160001_2 t167 t168 _ A40.out).mono ?_); rintro e w51 ⟨rfl, hb⟩; refine ⟨_, rfl, ?_⟩; have n0_ := Aside0.mk (blk_below (g := gb158) (o := .cells #[.int .i64 a0_0, .int .i64 a0_1] 25 (0, 0)) (by (with_reducible repeat (first | refine blk_drewN ?_ _ | refine blk_drew ?_ | refine blk_alloc ?_ _)); exact BK158.out) hb); have n1_ := Aside0.mk (blk_below (g := gb159) (o := .cells #[.int .i64 x160000_2, .int .i64 x160001_2] 29 (0, 0)) (by (with_reducible repeat (first | refine blk_drewN ?_ _ | refine blk_drew ?_ | refine blk_alloc ?_ _)); exact BK159.out) hb); have n2_ := Aside0.mk (blk_below (g := gb160) (o := .cells #[.int .i64 0, .int .i64 0] 29 (0, 0)) (by (with_reducible repeat (first | refine blk_drewN ?_ _ | refine blk_drew ?_ | refine blk_alloc ?_ _)); exact BK160.out) hb); have n3_ := Aside0.mk (blk_below (g := gb166) (o := .cells #[.int .i64 x167000_2, .int .i64 x167001_2] 29 (0, 0)) (by (with_reducible repeat (first | refine blk_drewN ?_ _ | refine blk_drew ?_ | refine blk_alloc ?_ _)); exact BK166.out) hb); have n4_ := Aside0.mk (below_step (by repeat (first | (with_reducible first | exact HB.out | apply below_alloc | apply pw_below_drewN | apply below_drew1 | refine below_set ?_ GE158.out | refine below_set ?_ GE159.out | refine below_set ?_ GE160.out | refine below_set ?_ GE166.out) | exact HB.out)) hb); clear BK158; clear BK159; clear BK160; clear BK166; clear HB; have BK158 := n0_; have BK159 := n1_; have BK160 := n2_; have BK166 := n3_; have HB := n4_; clear n0_ n1_ n2_ n3_ n4_; (try clear hb); (try clear hb2); (try clear hk); (try clear hi); have hcz52_0 : w51.cell? ⟨gb166, 0, none⟩ = some (.int .i64 x167000_2) := (blk_cell BK166.out 0).trans rfl; have hcz52_1 : w51.cell? ⟨gb166, 1, none⟩ = some (.int .i64 x167001_2) := (blk_cell BK166.out 1).trans rfl; have hfz52_0 := blk_frozen BK166.out 0; have hfz52_1 := blk_frozen BK166.out 1; have hcz53_0 : w51.cell? ⟨gb158, 0, none⟩ = some (.int .i64 a0_0) := (blk_cell BK158.out 0).trans rfl; have hcz53_1 : w51.cell? ⟨gb158, 1, none⟩ = some (.int .i64 a0_1) := (blk_cell BK158.out 1).trans rfl; have hfz53_0 := blk_frozen BK158.out 0; have hfz53_1 := blk_frozen BK158.out 1; have hcz54_0 : w51.cell? ⟨gb159, 0, none⟩ = some (.int .i64 x160000_2) := (blk_cell BK159.out 0).trans rfl; have hcz54_1 : w51.cell? ⟨gb159, 1, none⟩ = some (.int .i64 x160001_2) := (blk_cell BK159.out 1).trans rfl; have hfz54_0 := blk_frozen BK159.out 0; have hfz54_1 := blk_frozen BK159.out 1) | ((with_reducible refine gate_callee (f := 48) rfl ?_); refine goesL_ (some 35) rfl rfl Try.func48 (by kernel_rfl) rfl #[.agg #[.int .i64 a0_0, .int .i64 a0_1], .agg #[.int .i64 x160000_2, .int .i64 x160001_2], .agg #[.int .i64 x160000_2, .int .i64 x160001_2]] rfl (by (try simp only [List.map_toArray, List.map_cons, List.map_nil]); first | done | rfl | (simp only [List.length_drop, List.length_take]; rfl)) ?_; (with_reducible refine (impl_addPoints.calls k2 a0_0 a0_1 x160000_2 x160001_2 x160000_2 x160001_2 t169 t170 _ A41.out).mono ?_); rintro e w55 ⟨rfl, hb⟩; refine ⟨_, rfl, ?_⟩; have n0_ := Aside0.mk (blk_below (g := gb158) (o := .cells #[.int .i64 a0_0, .int .i64 a0_1] 25 (0, 0)) (by (with_reducible repeat (first | refine blk_drewN ?_ _ | refine blk_drew ?_ | refine blk_alloc ?_ _)); refine blk_far ?_ NB158_166.out _; (with_reducible repeat (first | refine blk_drewN ?_ _ | refine blk_drew ?_ | refine blk_alloc ?_ _)); refine blk_far ?_ NB158_166.out _; (with_reducible repeat (first | refine blk_drewN ?_ _ | refine blk_drew ?_ | refine blk_alloc ?_ _)); exact BK158.out) hb); have n1_ := Aside0.mk (blk_below (g := gb159) (o := .cells #[.int .i64 x160000_2, .int .i64 x160001_2] 29 (0, 0)) (by (with_reducible repeat (first | refine blk_drewN ?_ _ | refine blk_drew ?_ | refine blk_alloc ?_ _)); refine blk_far ?_ NB159_166.out _; (with_reducible repeat (first | refine blk_drewN ?_ _ | refine blk_drew ?_ | refine blk_alloc ?_ _)); refine blk_far ?_ NB159_166.out _; (with_reducible repeat (first | refine blk_drewN ?_ _ | refine blk_drew ?_ | refine blk_alloc ?_ _)); exact BK159.out) hb); have n2_ := Aside0.mk (blk_below (g := gb160) (o := .cells #[.int .i64 0, .int .i64 0] 29 (0, 0)) (by (with_reducible repeat (first | refine blk_drewN ?_ _ | refine blk_drew ?_ | refine blk_alloc ?_ _)); refine blk_far ?_ NB160_166.out _; (with_reducible repeat (first | refine blk_drewN ?_ _ | refine blk_drew ?_ | refine blk_alloc ?_ _)); refine blk_far ?_ NB160_166.out _; (with_reducible repeat (first | refine blk_drewN ?_ _ | refine blk_drew ?_ | refine blk_alloc ?_ _)); exact BK160.out) hb); have n3_ := Aside0.mk (blk_below (g := gb166) (o := .cells #[.int .i64 t167, .int .i64 t168] 29 (0, 0)) (by (with_reducible repeat (first | refine blk_drewN ?_ _ | refine blk_drew ?_ | refine blk_alloc ?_ _)); refine blk_put (cs := #[.int .i64 t167, .int .i64 x167001_2]) ?_ 1 _ rfl; (with_reducible repeat (first | refine blk_drewN ?_ _ | refine blk_drew ?_ | refine blk_alloc ?_ _)); refine blk_put (cs := #[.int .i64 x167000_2, .int .i64 x167001_2]) ?_ 0 _ rfl; (with_reducible repeat (first | refine blk_drewN ?_ _ | refine blk_drew ?_ | refine blk_alloc ?_ _)); exact BK166.out) hb); have n4_ := Aside0.mk (below_step (by repeat (first | (with_reducible first | exact HB.out | apply below_alloc | apply pw_below_drewN | apply below_drew1 | refine below_set ?_ GE158.out | refine below_set ?_ GE159.out | refine below_set ?_ GE160.out | refine below_set ?_ GE166.out) | exact HB.out)) hb); clear BK158; clear BK159; clear BK160; clear BK166; clear HB; have BK158 := n0_; have BK159 := n1_; have BK160 := n2_; have BK166 := n3_; have HB := n4_; clear n0_ n1_ n2_ n3_ n4_; (try clear hb); (try clear hb2); (try clear hk); (try clear hi); have hcz56_0 : w55.cell? ⟨gb159, 0, none⟩ = some (.int .i64 x160000_2) := (blk_cell BK159.out 0).trans rfl; have hcz56_1 : w55.cell? ⟨gb159, 1, none⟩ = some (.int .i64 x160001_2) := (blk_cell BK159.out 1).trans rfl; have hfz56_0 := blk_frozen BK159.out 0; have hfz56_1 := blk_frozen BK159.out 1))
                go_roundg k2
                case measure => have := HJ3.out; have := HK2.out; omega
                case rel => exact ⟨(wrap64 (Int.tdiv x1_2 2)), (t169), (t170), (t167), (t168), (by first | rfl | (simp; done) | (simp [*]; done)), H', ⟨by have := HJ3.out; have := HK2.out; omega⟩, ⟨by (with_reducible repeat (first | refine blk_drewN ?_ _ | refine blk_drew ?_ | refine blk_alloc ?_ _)); refine blk_far ?_ NB158_159.out _; (with_reducible repeat (first | refine blk_drewN ?_ _ | refine blk_drew ?_ | refine blk_alloc ?_ _)); refine blk_far ?_ NB158_159.out _; (with_reducible repeat (first | refine blk_drewN ?_ _ | refine blk_drew ?_ | refine blk_alloc ?_ _)); exact BK158.out⟩, ⟨by (with_reducible repeat (first | refine blk_drewN ?_ _ | refine blk_drew ?_ | refine blk_alloc ?_ _)); refine blk_put (cs := #[.int .i64 t169, .int .i64 x160001_2]) ?_ 1 _ rfl; (with_reducible repeat (first | refine blk_drewN ?_ _ | refine blk_drew ?_ | refine blk_alloc ?_ _)); refine blk_put (cs := #[.int .i64 x160000_2, .int .i64 x160001_2]) ?_ 0 _ rfl; (with_reducible repeat (first | refine blk_drewN ?_ _ | refine blk_drew ?_ | refine blk_alloc ?_ _)); exact BK159.out⟩, ⟨by (with_reducible repeat (first | refine blk_drewN ?_ _ | refine blk_drew ?_ | refine blk_alloc ?_ _)); refine blk_far ?_ NB160_159.out _; (with_reducible repeat (first | refine blk_drewN ?_ _ | refine blk_drew ?_ | refine blk_alloc ?_ _)); refine blk_far ?_ NB160_159.out _; (with_reducible repeat (first | refine blk_drewN ?_ _ | refine blk_drew ?_ | refine blk_alloc ?_ _)); exact BK160.out⟩, ⟨by (with_reducible repeat (first | refine blk_drewN ?_ _ | refine blk_drew ?_ | refine blk_alloc ?_ _)); refine blk_far ?_ NB166_159.out _; (with_reducible repeat (first | refine blk_drewN ?_ _ | refine blk_drew ?_ | refine blk_alloc ?_ _)); refine blk_far ?_ NB166_159.out _; (with_reducible repeat (first | refine blk_drewN ?_ _ | refine blk_drew ?_ | refine blk_alloc ?_ _)); exact BK166.out⟩, ⟨by repeat (first | (with_reducible first | exact HB.out | apply below_alloc | apply pw_below_drewN | apply below_drew1 | refine below_set ?_ GE158.out | refine below_set ?_ GE159.out | refine below_set ?_ GE160.out | refine below_set ?_ GE166.out) | exact HB.out)⟩⟩
              · rw [if_neg c39] at H
                have c39b0 : ((Int.tmod x1_2 2) == 1) = false := beq_eq_false_iff_ne.mpr c39
                have c39b1 : ((Int.tmod x1_2 2) != 1) = true := bne_iff_ne.mpr c39
                replace H := Option.bind_eq_some_iff.mp H
                obtain ⟨⟨t171, t172⟩, A570, H⟩ := H
                replace H : (impl_TimesPoint.l0 k2 (wrap64 (Int.tdiv x1_2 2)) a0_0 a0_1 t171 t172 x167000_2 x167001_2) = some (r1, r2, r3) := H
                have A57 := Aside0.mk A570
                clear A570
                have H' := Aside0.mk H
                clear H
                have hnb58 := NB158_159.out
                have hnc58 := NB159_158.out
                have hnb59 := NB158_160.out
                have hnc59 := NB160_158.out
                have hnb60 := NB158_166.out
                have hnc60 := NB166_158.out
                have hcz61_0 : wr.cell? ⟨gb158, 0, none⟩ = some (.int .i64 a0_0) := (blk_cell BK158.out 0).trans rfl
                have hcz61_1 : wr.cell? ⟨gb158, 1, none⟩ = some (.int .i64 a0_1) := (blk_cell BK158.out 1).trans rfl
                have hfz61_0 := blk_frozen BK158.out 0
                have hfz61_1 := blk_frozen BK158.out 1
                have hnb62 := NB159_160.out
                have hnc62 := NB160_159.out
                have hnb63 := NB159_166.out
                have hnc63 := NB166_159.out
                have hcz64_0 : wr.cell? ⟨gb159, 0, none⟩ = some (.int .i64 x160000_2) := (blk_cell BK159.out 0).trans rfl
                have hcz64_1 : wr.cell? ⟨gb159, 1, none⟩ = some (.int .i64 x160001_2) := (blk_cell BK159.out 1).trans rfl
                have hfz64_0 := blk_frozen BK159.out 0
                have hfz64_1 := blk_frozen BK159.out 1
                go_wp2_with (first | ((with_reducible refine gate_callee (f := 48) rfl ?_); refine goesL_ (some 35) rfl rfl Try.func48 (by kernel_rfl) rfl #[.agg #[.int .i64 a0_0, .int .i64 a0_1], .agg #[.int .i64 x160000_2, .int .i64 x160001_2], .agg #[.int .i64 x160000_2, .int .i64 x160001_2]] rfl (by (try simp only [List.map_toArray, List.map_cons, List.map_nil]); first | done | rfl | (simp only [List.length_drop, List.length_take]; rfl)) ?_; (with_reducible refine (impl_addPoints.calls k2 a0_0 a0_1 x160000_2 x160001_2 x160000_2 x160001_2 t171 t172 _ A57.out).mono ?_); rintro e w65 ⟨rfl, hb⟩; refine ⟨_, rfl, ?_⟩; have n0_ := Aside0.mk (blk_below (g := gb158) (o := .cells #[.int .i64 a0_0, .int .i64 a0_1] 25 (0, 0)) (by (with_reducible repeat (first | refine blk_drewN ?_ _ | refine blk_drew ?_ | refine blk_alloc ?_ _)); exact BK158.out) hb); have n1_ := Aside0.mk (blk_below (g := gb159) (o := .cells #[.int .i64 x160000_2, .int .i64 x160001_2] 29 (0, 0)) (by (with_reducible repeat (first | refine blk_drewN ?_ _ | refine blk_drew ?_ | refine blk_alloc ?_ _)); exact BK159.out) hb); have n2_ := Aside0.mk (blk_below (g := gb160) (o := .cells #[.int .i64 0, .int .i64 0] 29 (0, 0)) (by (with_reducible repeat (first | refine blk_drewN ?_ _ | refine blk_drew ?_ | refine blk_alloc ?_ _)); exact BK160.out) hb); have n3_ := Aside0.mk (blk_below (g := gb166) (o := .cells #[.int .i64 x167000_2, .int .i64 x167001_2] 29 (0, 0)) (by (with_reducible repeat (first | refine blk_drewN ?_ _ | refine blk_drew ?_ | refine blk_alloc ?_ _)); exact BK166.out) hb); have n4_ := Aside0.mk (below_step (by repeat (first | (with_reducible first | exact HB.out | apply below_alloc | apply pw_below_drewN | apply below_drew1 | refine below_set ?_ GE158.out | refine below_set ?_ GE159.out | refine below_set ?_ GE160.out | refine below_set ?_ GE166.out) | exact HB.out)) hb); clear BK158; clear BK159; clear BK160; clear BK166; clear HB; have BK158 := n0_; have BK159 := n1_; have BK160 := n2_; have BK166 := n3_; have HB := n4_; clear n0_ n1_ n2_ n3_ n4_; (try clear hb); (try clear hb2); (try clear hk); (try clear hi); have hcz66_0 : w65.cell? ⟨gb159, 0, none⟩ = some (.int .i64 x160000_2) := (blk_cell BK159.out 0).trans rfl; have hcz66_1 : w65.cell? ⟨gb159, 1, none⟩ = some (.int .i64 x160001_2) := (blk_cell BK159.out 1).trans rfl; have hfz66_0 := blk_frozen BK159.out 0; have hfz66_1 := blk_frozen BK159.out 1))
                go_roundg k2
                case measure => have := HJ3.out; have := HK2.out; omega
                case rel => exact ⟨(wrap64 (Int.tdiv x1_2 2)), (t171), (t172), (x167000_2), (x167001_2), (by first | rfl | (simp; done) | (simp [*]; done)), H', ⟨by have := HJ3.out; have := HK2.out; omega⟩, ⟨by (with_reducible repeat (first | refine blk_drewN ?_ _ | refine blk_drew ?_ | refine blk_alloc ?_ _)); refine blk_far ?_ NB158_159.out _; (with_reducible repeat (first | refine blk_drewN ?_ _ | refine blk_drew ?_ | refine blk_alloc ?_ _)); refine blk_far ?_ NB158_159.out _; (with_reducible repeat (first | refine blk_drewN ?_ _ | refine blk_drew ?_ | refine blk_alloc ?_ _)); exact BK158.out⟩, ⟨by (with_reducible repeat (first | refine blk_drewN ?_ _ | refine blk_drew ?_ | refine blk_alloc ?_ _)); refine blk_put (cs := #[.int .i64 t171, .int .i64 x160001_2]) ?_ 1 _ rfl; (with_reducible repeat (first | refine blk_drewN ?_ _ | refine blk_drew ?_ | refine blk_alloc ?_ _)); refine blk_put (cs := #[.int .i64 x160000_2, .int .i64 x160001_2]) ?_ 0 _ rfl; (with_reducible repeat (first | refine blk_drewN ?_ _ | refine blk_drew ?_ | refine blk_alloc ?_ _)); exact BK159.out⟩, ⟨by (with_reducible repeat (first | refine blk_drewN ?_ _ | refine blk_drew ?_ | refine blk_alloc ?_ _)); refine blk_far ?_ NB160_159.out _; (with_reducible repeat (first | refine blk_drewN ?_ _ | refine blk_drew ?_ | refine blk_alloc ?_ _)); refine blk_far ?_ NB160_159.out _; (with_reducible repeat (first | refine blk_drewN ?_ _ | refine blk_drew ?_ | refine blk_alloc ?_ _)); exact BK160.out⟩, ⟨by (with_reducible repeat (first | refine blk_drewN ?_ _ | refine blk_drew ?_ | refine blk_alloc ?_ _)); refine blk_far ?_ NB166_159.out _; (with_reducible repeat (first | refine blk_drewN ?_ _ | refine blk_drew ?_ | refine blk_alloc ?_ _)); refine blk_far ?_ NB166_159.out _; (with_reducible repeat (first | refine blk_drewN ?_ _ | refine blk_drew ?_ | refine blk_alloc ?_ _)); exact BK166.out⟩, ⟨by repeat (first | (with_reducible first | exact HB.out | apply below_alloc | apply pw_below_drewN | apply below_drew1 | refine below_set ?_ GE158.out | refine below_set ?_ GE159.out | refine below_set ?_ GE160.out | refine below_set ?_ GE166.out) | exact HB.out)⟩⟩
            · rw [if_neg c38] at H
              have c38b0 : decide (0 < x1_2) = false := decide_eq_false c38
              clear c38
              simp only [Option.some.injEq, Prod.mk.injEq] at H
              obtain ⟨rfl, rfl, rfl⟩ := H
              have hnb67 := NB166_158.out
              have hnc67 := NB158_166.out
              have hnb68 := NB166_159.out
              have hnc68 := NB159_166.out
              have hnb69 := NB166_160.out
              have hnc69 := NB160_166.out
              have hcz70_0 : wr.cell? ⟨gb166, 0, none⟩ = some (.int .i64 x167000_2) := (blk_cell BK166.out 0).trans rfl
              have hcz70_1 : wr.cell? ⟨gb166, 1, none⟩ = some (.int .i64 x167001_2) := (blk_cell BK166.out 1).trans rfl
              have hfz70_0 := blk_frozen BK166.out 0
              have hfz70_1 := blk_frozen BK166.out 1
              have hnb71 := NB160_158.out
              have hnc71 := NB158_160.out
              have hnb72 := NB160_159.out
              have hnc72 := NB159_160.out
              have hcz73_0 : wr.cell? ⟨gb160, 0, none⟩ = some (.int .i64 0) := (blk_cell BK160.out 0).trans rfl
              have hcz73_1 : wr.cell? ⟨gb160, 1, none⟩ = some (.int .i64 0) := (blk_cell BK160.out 1).trans rfl
              have hfz73_0 := blk_frozen BK160.out 0
              have hfz73_1 := blk_frozen BK160.out 1
              go_wp2
              refine bodyPost_ret (results_ct rfl _ _ gb160 29 #[.int .i64 x167000_2, .int .i64 x167001_2] (0, 0) _ rfl (by (with_reducible repeat (first | refine blk_drewN ?_ _ | refine blk_drew ?_ | refine blk_alloc ?_ _)); refine blk_put (cs := #[.int .i64 x167000_2, .int .i64 0]) ?_ 1 _ rfl; (with_reducible repeat (first | refine blk_drewN ?_ _ | refine blk_drew ?_ | refine blk_alloc ?_ _)); refine blk_put (cs := #[.int .i64 0, .int .i64 0]) ?_ 0 _ rfl; (with_reducible repeat (first | refine blk_drewN ?_ _ | refine blk_drew ?_ | refine blk_alloc ?_ _)); exact BK160.out) Try.underlying29 rfl (by kernel_rfl)) rfl ?_
              exact ⟨by first | rfl | (simp [errW_none, errW_some] <;> rfl) | (simp [*, errW_none, errW_some] <;> rfl), by repeat (first | (with_reducible first | exact HB.out | apply below_alloc | apply pw_below_drewN | apply below_drew1 | refine below_set ?_ GE158.out | refine below_set ?_ GE159.out | refine below_set ?_ GE160.out | refine below_set ?_ GE166.out) | exact HB.out)⟩

end Go.Proofs.Ytghikmnjccgchaa.SFnExactTimesPoint
