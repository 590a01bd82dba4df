/- The Edwards addition law modulo a prime, over the integers: no program in sight. -/
import Derived.Test.YtghikmnjccgchaaNT
namespace Go.Proofs.Ytghikmnjccgchaa.NT

/-- the curve's equation, as a number that p divides -/
def ec (d x y : Int) : Int := x * x + y * y - 1 - d * (x * x) * (y * y)

/-- m of two points -/
def em (d x1 y1 x2 y2 : Int) : Int := d * x1 * x2 * y1 * y2

theorem closure_id (d x1 y1 x2 y2 : Int) :
    (x1*y2+y1*x2)*(x1*y2+y1*x2) * ((1 - em d x1 y1 x2 y2) * (1 - em d x1 y1 x2 y2))
    + (y1*y2-x1*x2)*(y1*y2-x1*x2) * ((1 + em d x1 y1 x2 y2) * (1 + em d x1 y1 x2 y2))
    - ((1 + em d x1 y1 x2 y2) * (1 - em d x1 y1 x2 y2)) * ((1 + em d x1 y1 x2 y2) * (1 - em d x1 y1 x2 y2))
    - d * ((x1*y2+y1*x2)*(x1*y2+y1*x2)) * ((y1*y2-x1*x2)*(y1*y2-x1*x2))
    = ec d x1 y1 * ((1 - em d x1 y1 x2 y2 * em d x1 y1 x2 y2) * (1 - d * (x2*x2)*(y2*y2)) - d * (x2*x2)*(y2*y2) * (ec d x1 y1 - d * (x1*x1)*(y1*y1) * ec d x2 y2))
      + ec d x2 y2 * ((1 - em d x1 y1 x2 y2 * em d x1 y1 x2 y2) * (1 - d * (x1*x1)*(y1*y1)) + (ec d x1 y1 - d * (x1*x1)*(y1*y1) * ec d x2 y2)) := by
  unfold em ec
  grind

theorem back_x_id (d x1 y1 x2 y2 : Int) :
    x1 * ((1 + em d x1 y1 x2 y2) * (1 - em d x1 y1 x2 y2) - d * x2 * y2 * (x1*y2+y1*x2) * (y1*y2-x1*x2))
    - ((x1*y2+y1*x2) * (1 - em d x1 y1 x2 y2) * y2 - (y1*y2-x1*x2) * (1 + em d x1 y1 x2 y2) * x2)
    = ec d x1 y1 * (x1 * (d * (x2*x2)*(y2*y2))) + ec d x2 y2 * (- x1) := by
  unfold em ec
  grind

theorem back_y_id (d x1 y1 x2 y2 : Int) :
    y1 * ((1 + em d x1 y1 x2 y2) * (1 - em d x1 y1 x2 y2) + d * x2 * y2 * (x1*y2+y1*x2) * (y1*y2-x1*x2))
    - ((y1*y2-x1*x2) * (1 + em d x1 y1 x2 y2) * y2 + (x1*y2+y1*x2) * (1 - em d x1 y1 x2 y2) * x2)
    = ec d x1 y1 * (y1 * (d * (x2*x2)*(y2*y2))) + ec d x2 y2 * (- y1) := by
  unfold em ec
  grind

theorem complete_id1 (d x1 y1 x2 y2 e : Int) (he : e * e = 1) :
    (x1 + e*y1)*(x1 + e*y1) - d * ((x1*y1*(x2+y2)) * (x1*y1*(x2+y2)))
    = ec d x1 y1 + ec d x2 y2 * (- (d * (x1*x1)*(y1*y1))) + (em d x1 y1 x2 y2 - e) * (- (em d x1 y1 x2 y2 + e) - 2*x1*y1) := by
  unfold em ec
  grind

theorem complete_id2 (d x1 y1 x2 y2 e : Int) (he : e * e = 1) :
    (x1 - e*y1)*(x1 - e*y1) - d * ((x1*y1*(x2-y2)) * (x1*y1*(x2-y2)))
    = ec d x1 y1 + ec d x2 y2 * (- (d * (x1*x1)*(y1*y1))) + (em d x1 y1 x2 y2 - e) * (- (em d x1 y1 x2 y2 + e) + 2*x1*y1) := by
  unfold em ec
  grind

theorem Pr.euclidInt {p : Nat} (h : Pr p) {a b : Int} (hd : (p : Int) ∣ a * b) : (p : Int) ∣ a ∨ (p : Int) ∣ b := by
  rw [Int.ofNat_dvd_left, Int.natAbs_mul] at hd
  rw [Int.ofNat_dvd_left, Int.ofNat_dvd_left]
  exact h.euclid hd

theorem Pr.not_one {p : Nat} (h : Pr p) : ¬ (p : Int) ∣ 1 := by
  intro hd
  have h1 := Int.le_of_dvd (by omega) hd
  have := h.1
  omega

theorem dvd_lin2 {p a b x y : Int} (ha : p ∣ a) (hb : p ∣ b) : p ∣ a * x + b * y :=
  Int.dvd_add (Int.dvd_mul_of_dvd_left ha) (Int.dvd_mul_of_dvd_left hb)

theorem dvd_diff_sq {p a b : Int} (h : p ∣ a - b) : p ∣ a * a - b * b := by
  have e : a * a - b * b = (a - b) * (a + b) := by grind
  rw [e]
  exact Int.dvd_mul_of_dvd_left h

/-- d is no square modulo p: as the proofs take it -/
def NS (p : Nat) (d : Int) : Prop := ∀ u v : Int, (p : Int) ∣ u * u - d * (v * v) → (p : Int) ∣ v

theorem complete {p : Nat} (h : Pr p) (hodd : p % 2 = 1) {d : Int} (hns : NS p d) {x1 y1 x2 y2 e : Int} (he : e * e = 1)
    (h1 : (p : Int) ∣ ec d x1 y1) (h2 : (p : Int) ∣ ec d x2 y2) : ¬ (p : Int) ∣ em d x1 y1 x2 y2 - e := by
  intro hm
  have hne : ¬ (p : Int) ∣ e := by
    intro hd
    apply h.not_one
    rw [← he]
    exact Int.dvd_mul_of_dvd_left hd
  have hmne : ¬ (p : Int) ∣ em d x1 y1 x2 y2 := by
    intro hd
    apply hne
    have e1 : e = em d x1 y1 x2 y2 * 1 + (em d x1 y1 x2 y2 - e) * (-1) := by omega
    rw [e1]
    exact dvd_lin2 hd hm
  have hA := hns (x1 + e*y1) (x1*y1*(x2+y2)) (by
    rw [complete_id1 d x1 y1 x2 y2 e he]
    exact Int.dvd_add (Int.dvd_add h1 (Int.dvd_mul_of_dvd_left h2)) (Int.dvd_mul_of_dvd_left hm))
  have hB := hns (x1 - e*y1) (x1*y1*(x2-y2)) (by
    rw [complete_id2 d x1 y1 x2 y2 e he]
    exact Int.dvd_add (Int.dvd_add h1 (Int.dvd_mul_of_dvd_left h2)) (Int.dvd_mul_of_dvd_left hm))
  have hxy : ¬ (p : Int) ∣ x1 * y1 := by
    intro hd
    apply hmne
    have e1 : em d x1 y1 x2 y2 = x1 * y1 * (d * x2 * y2) := by unfold em; grind
    rw [e1]
    exact Int.dvd_mul_of_dvd_left hd
  have hA' : (p : Int) ∣ x2 + y2 := (h.euclidInt hA).resolve_left hxy
  have hB' : (p : Int) ∣ x2 - y2 := (h.euclidInt hB).resolve_left hxy
  have hC : (p : Int) ∣ 2 * x2 := by
    have e1 : 2 * x2 = (x2 + y2) * 1 + (x2 - y2) * 1 := by omega
    rw [e1]
    exact dvd_lin2 hA' hB'
  rcases h.euclidInt hC with h3 | h3
  · have := Int.le_of_dvd (by omega) h3
    have := h.1
    omega
  · apply hmne
    have e1 : em d x1 y1 x2 y2 = x2 * (d * x1 * y1 * y2) := by unfold em; grind
    rw [e1]
    exact Int.dvd_mul_of_dvd_left h3

theorem complete_plus {p : Nat} (h : Pr p) (hodd : p % 2 = 1) {d : Int} (hns : NS p d) {x1 y1 x2 y2 : Int}
    (h1 : (p : Int) ∣ ec d x1 y1) (h2 : (p : Int) ∣ ec d x2 y2) : ¬ (p : Int) ∣ 1 + em d x1 y1 x2 y2 := by
  intro hd
  apply complete h hodd hns (e := -1) (by decide) h1 h2
  have e1 : em d x1 y1 x2 y2 - -1 = 1 + em d x1 y1 x2 y2 := by omega
  rw [e1]
  exact hd

theorem complete_minus {p : Nat} (h : Pr p) (hodd : p % 2 = 1) {d : Int} (hns : NS p d) {x1 y1 x2 y2 : Int}
    (h1 : (p : Int) ∣ ec d x1 y1) (h2 : (p : Int) ∣ ec d x2 y2) : ¬ (p : Int) ∣ 1 - em d x1 y1 x2 y2 := by
  intro hd
  apply complete h hodd hns (e := 1) (by decide) h1 h2
  have e1 : em d x1 y1 x2 y2 - 1 = (1 - em d x1 y1 x2 y2) * (-1) := by omega
  rw [e1]
  exact Int.dvd_mul_of_dvd_left hd

/-- (x3, y3) is the sum of two points: with the denominators on the left -/
def IsSum (p : Nat) (d x1 y1 x2 y2 x3 y3 : Int) : Prop :=
  (p : Int) ∣ x3 * (1 + em d x1 y1 x2 y2) - (x1*y2+y1*x2) ∧ (p : Int) ∣ y3 * (1 - em d x1 y1 x2 y2) - (y1*y2-x1*x2)

theorem IsSum.closed {p : Nat} (h : Pr p) (hodd : p % 2 = 1) {d : Int} (hns : NS p d) {x1 y1 x2 y2 x3 y3 : Int}
    (h1 : (p : Int) ∣ ec d x1 y1) (h2 : (p : Int) ∣ ec d x2 y2) (hs : IsSum p d x1 y1 x2 y2 x3 y3) : (p : Int) ∣ ec d x3 y3 := by
  obtain ⟨hx, hy⟩ := hs
  have hp := complete_plus h hodd hns h1 h2
  have hq := complete_minus h hodd hns h1 h2
  have hid := closure_id d x1 y1 x2 y2
  generalize em d x1 y1 x2 y2 = m at *
  generalize x1*y2+y1*x2 = n1 at *
  generalize y1*y2-x1*x2 = n2 at *
  have hx2 := dvd_diff_sq hx
  have hy2 := dvd_diff_sq hy
  have key : (p : Int) ∣ ((1 + m) * (1 - m)) * (((1 + m) * (1 - m)) * ec d x3 y3) := by
    have e1 : ((1 + m) * (1 - m)) * (((1 + m) * (1 - m)) * ec d x3 y3)
        = (n1 * n1 * ((1 - m) * (1 - m)) + n2 * n2 * ((1 + m) * (1 + m)) - (1 + m) * (1 - m) * ((1 + m) * (1 - m)) - d * (n1 * n1) * (n2 * n2))
          + ((x3 * (1 + m) * (x3 * (1 + m)) - n1 * n1) * ((1 - m) * (1 - m) - d * (y3 * (1 - m) * (y3 * (1 - m))))
          + (y3 * (1 - m) * (y3 * (1 - m)) - n2 * n2) * ((1 + m) * (1 + m) - d * (n1 * n1))) := by
      unfold ec
      grind
    rw [e1, hid]
    exact Int.dvd_add (dvd_lin2 h1 h2) (dvd_lin2 hx2 hy2)
  have hne : ¬ (p : Int) ∣ (1 + m) * (1 - m) := fun hd => (h.euclidInt hd).elim hp hq
  exact (h.euclidInt ((h.euclidInt key).resolve_left hne)).resolve_left hne

theorem IsSum.back {p : Nat} (h : Pr p) (hodd : p % 2 = 1) {d : Int} (hns : NS p d) {x1 y1 x2 y2 x3 y3 : Int}
    (h1 : (p : Int) ∣ ec d x1 y1) (h2 : (p : Int) ∣ ec d x2 y2) (hs : IsSum p d x1 y1 x2 y2 x3 y3) :
    (p : Int) ∣ x1 * (1 - em d x3 y3 x2 y2) - (x3 * y2 - y3 * x2) ∧ (p : Int) ∣ y1 * (1 + em d x3 y3 x2 y2) - (y3 * y2 + x3 * x2) := by
  obtain ⟨hx, hy⟩ := hs
  have hp := complete_plus h hodd hns h1 h2
  have hq := complete_minus h hodd hns h1 h2
  have hidx := back_x_id d x1 y1 x2 y2
  have hidy := back_y_id d x1 y1 x2 y2
  generalize em d x1 y1 x2 y2 = m at *
  generalize x1*y2+y1*x2 = n1 at *
  generalize y1*y2-x1*x2 = n2 at *
  have hne : ¬ (p : Int) ∣ (1 + m) * (1 - m) := fun hd => (h.euclidInt hd).elim hp hq
  constructor
  · refine (h.euclidInt (?_ : (p : Int) ∣ (1 + m) * (1 - m) * _)).resolve_left hne
    have e1 : (1 + m) * (1 - m) * (x1 * (1 - em d x3 y3 x2 y2) - (x3 * y2 - y3 * x2))
        = (x1 * ((1 + m) * (1 - m) - d * x2 * y2 * n1 * n2) - (n1 * (1 - m) * y2 - n2 * (1 + m) * x2))
          + ((x3 * (1 + m) - n1) * (- (x1 * d * x2 * y2 * (y3 * (1 - m))) - (1 - m) * y2)
          + (y3 * (1 - m) - n2) * (- (x1 * d * x2 * y2 * n1) + (1 + m) * x2)) := by
      unfold em
      grind
    rw [e1, hidx]
    exact Int.dvd_add (dvd_lin2 h1 h2) (dvd_lin2 hx hy)
  · refine (h.euclidInt (?_ : (p : Int) ∣ (1 + m) * (1 - m) * _)).resolve_left hne
    have e1 : (1 + m) * (1 - m) * (y1 * (1 + em d x3 y3 x2 y2) - (y3 * y2 + x3 * x2))
        = (y1 * ((1 + m) * (1 - m) + d * x2 * y2 * n1 * n2) - (n2 * (1 + m) * y2 + n1 * (1 - m) * x2))
          + ((x3 * (1 + m) - n1) * ((y1 * d * x2 * y2 * (y3 * (1 - m))) - (1 - m) * x2)
          + (y3 * (1 - m) - n2) * ((y1 * d * x2 * y2 * n1) - (1 + m) * y2)) := by
      unfold em
      grind
    rw [e1, hidy]
    exact Int.dvd_add (dvd_lin2 h1 h2) (dvd_lin2 hx hy)

/-- adding a point is injective -/
theorem IsSum.inj {p : Nat} (h : Pr p) (hodd : p % 2 = 1) {d : Int} (hns : NS p d) {x1 y1 x1' y1' x2 y2 x3 y3 : Int}
    (h1 : (p : Int) ∣ ec d x1 y1) (h1' : (p : Int) ∣ ec d x1' y1') (h2 : (p : Int) ∣ ec d x2 y2)
    (hs : IsSum p d x1 y1 x2 y2 x3 y3) (hs' : IsSum p d x1' y1' x2 y2 x3 y3) : (p : Int) ∣ x1 - x1' ∧ (p : Int) ∣ y1 - y1' := by
  have h3 := hs.closed h hodd hns h1 h2
  obtain ⟨ax, ay⟩ := hs.back h hodd hns h1 h2
  obtain ⟨bx, bY⟩ := hs'.back h hodd hns h1' h2
  have hp := complete_plus h hodd hns h3 h2
  have hq := complete_minus h hodd hns h3 h2
  generalize em d x3 y3 x2 y2 = m at *
  constructor
  · refine (h.euclidInt (?_ : (p : Int) ∣ (1 - m) * _)).resolve_left hq
    have e1 : (1 - m) * (x1 - x1') = (x1 * (1 - m) - (x3 * y2 - y3 * x2)) * 1 + (x1' * (1 - m) - (x3 * y2 - y3 * x2)) * (-1) := by grind
    rw [e1]
    exact dvd_lin2 ax bx
  · refine (h.euclidInt (?_ : (p : Int) ∣ (1 + m) * _)).resolve_left hp
    have e1 : (1 + m) * (y1 - y1') = (y1 * (1 + m) - (y3 * y2 + x3 * x2)) * 1 + (y1' * (1 + m) - (y3 * y2 + x3 * x2)) * (-1) := by grind
    rw [e1]
    exact dvd_lin2 ay bY

end Go.Proofs.Ytghikmnjccgchaa.NT
