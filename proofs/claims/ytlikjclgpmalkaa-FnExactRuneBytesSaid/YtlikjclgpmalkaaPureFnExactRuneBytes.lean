/- The law FnExactRuneBytes answers true for every number. No condition. -/
import Derived.Test.YtlikjclgpmalkaaSFnExactRuneBytesx1
import Derived.Laws.BitsLemmas
namespace Go.Proofs.Ytlikjclgpmalkaa.Pure
open Go.RowKit Go.Proofs.Ytlikjclgpmalkaa.SFnExactRuneBytes Go.Proofs.YtlikjclgpmalkaaW.PrintWords Go.Proofs.YtlikjclgpmalkaaW.PrintLast Go.Proofs.YtlikjclgpmalkaaW.PrintMore

/-- a rune -/
def good (n : Int) : Bool := decide (0 ≤ n ∧ n ≤ 1114111) && !decide (55296 ≤ n ∧ n ≤ 57343)

theorem in_ev (a lo hi : Int) : spec_l1In.f a lo hi = some (decide (lo ≤ a ∧ a ≤ hi)) := by
  unfold spec_l1In.f
  by_cases h : a ≥ lo
  · rw [if_pos h]; congr 1; simp; omega
  · rw [if_neg h]; congr 1; simp; omega
theorem good_ev (n : Int) : spec_GoodRune.f n = some (good n) := by
  unfold spec_GoodRune.f good
  simp only [in_ev, Option.bind_some]
  by_cases h : 0 ≤ n ∧ n ≤ 1114111
  · simp only [h, and_self, decide_true, if_true, Bool.true_and]
  · simp only [h, decide_false, Bool.false_eq_true, if_false, Bool.false_and]



theorem wraps_i64 (n : Int) (h0 : 0 ≤ n) (h1 : n < 2 ^ 40) : IntKind.i64.wrap n = n := by
  rw [IntKind.wrap_i64]
  have : (2 : Int) ^ 40 = 1099511627776 := by decide
  omega
theorem lim40 : (2 : Int) ^ 40 = 1099511627776 := by decide
theorem and63 {x : Int} (h0 : 0 ≤ x) (h1 : x < 1000000000) : Go.bits .and .i64 x 63 = x % 64 := bits_mask .i64 40 (by decide) wraps_i64 6 (by decide) x h0 (by rw [lim40]; omega)

theorem s1 (a : Int) : strOfNums [a] = ⟨#[UInt8.ofNat a.toNat]⟩ := rfl
theorem s2 (a b : Int) : strOfNums [a, b] = ⟨#[UInt8.ofNat a.toNat, UInt8.ofNat b.toNat]⟩ := rfl
theorem s3 (a b c : Int) : strOfNums [a, b, c] = ⟨#[UInt8.ofNat a.toNat, UInt8.ofNat b.toNat, UInt8.ofNat c.toNat]⟩ := rfl
theorem s4 (a b c d : Int) : strOfNums [a, b, c, d] = ⟨#[UInt8.ofNat a.toNat, UInt8.ofNat b.toNat, UInt8.ofNat c.toNat, UInt8.ofNat d.toNat]⟩ := rfl

theorem bytes_ev (n : Int) (hg : good n = true) : spec_l2Bytes.f n = some (Utf8.encode (wrap32 n)) := by
  have h : (0 ≤ n ∧ n ≤ 1114111) ∧ ¬ (55296 ≤ n ∧ n ≤ 57343) := by
    unfold good at hg
    simp only [Bool.and_eq_true, decide_eq_true_eq, Bool.not_eq_true', decide_eq_false_iff_not] at hg
    exact hg
  obtain ⟨m, rfl⟩ : ∃ m : Nat, n = (m : Int) := ⟨n.toNat, by omega⟩
  have e : wrap32 (m : Int) = (m : Int) := by unfold wrap32; omega
  have hv : Utf8.valid (m : Int) = true := by
    unfold Utf8.valid
    simp only [Bool.or_eq_true, Bool.and_eq_true, decide_eq_true_eq]
    omega
  rw [e]
  clear e hg
  unfold Utf8.encode spec_l2Bytes.f
  simp only [hv, if_true, Int.toNat_natCast]
  by_cases h1 : m < 128
  · have e1 : ((m : Int) % 256).toNat = m := by omega
    rw [if_pos (show (m : Int) < 128 by omega), if_pos h1, s1, e1]
  · rw [if_neg (show ¬ (m : Int) < 128 by omega), if_neg h1]
    by_cases h2 : m < 2048
    · have e1 : (wrap64 (192 + (m : Int) / 64) % 256).toNat = 192 + m / 64 := by unfold wrap64; omega
      have e2 : (wrap64 (128 + (m : Int) % 64) % 256).toNat = 128 + m % 64 := by unfold wrap64; omega
      rw [if_pos (show (m : Int) < 2048 by omega), if_pos h2, and63 (by omega) (by omega), s2, e1, e2]
    · rw [if_neg (show ¬ (m : Int) < 2048 by omega), if_neg h2]
      by_cases h3 : m < 65536
      · have e1 : (wrap64 (224 + (m : Int) / 4096) % 256).toNat = 224 + m / 4096 := by unfold wrap64; omega
        have e2 : (wrap64 (128 + (m : Int) / 64 % 64) % 256).toNat = 128 + m / 64 % 64 := by unfold wrap64; omega
        have e3 : (wrap64 (128 + (m : Int) % 64) % 256).toNat = 128 + m % 64 := by unfold wrap64; omega
        rw [if_pos (show (m : Int) < 65536 by omega), if_pos h3, and63 (x := (m : Int) / 64) (by omega) (by omega), and63 (x := (m : Int)) (by omega) (by omega), s3, e1, e2, e3]
      · have e1 : (wrap64 (240 + (m : Int) / 262144) % 256).toNat = 240 + m / 262144 := by unfold wrap64; omega
        have e2 : (wrap64 (128 + (m : Int) / 4096 % 64) % 256).toNat = 128 + m / 4096 % 64 := by unfold wrap64; omega
        have e3 : (wrap64 (128 + (m : Int) / 64 % 64) % 256).toNat = 128 + m / 64 % 64 := by unfold wrap64; omega
        have e4 : (wrap64 (128 + (m : Int) % 64) % 256).toNat = 128 + m % 64 := by unfold wrap64; omega
        rw [if_neg (show ¬ (m : Int) < 65536 by omega), if_neg h3, and63 (x := (m : Int) / 4096) (by omega) (by omega), and63 (x := (m : Int) / 64) (by omega) (by omega), and63 (x := (m : Int)) (by omega) (by omega), s4, e1, e2, e3, e4]

theorem encode_size (r : Int) : (Utf8.encode r).size ≤ 4 := by
  unfold Utf8.encode
  dsimp only
  generalize (if Utf8.valid r = true then r.toNat else Utf8.runeError) = c
  split
  · show 1 ≤ 4; omega
  · split
    · show 2 ≤ 4; omega
    · split
      · show 3 ≤ 4; omega
      · show 4 ≤ 4; omega


theorem rune_ev (n : Int) : impl_isRune.f n = some (good n) := good_ev n

theorem FnExactRuneBytes : laws_FnExactRuneBytes.Pure := by
  intro n _
  unfold laws_FnExactRuneBytes.f spec_RuneBytes.f impl_RuneBytes.f
  rw [good_ev, rune_ev]
  cases hg : good n with
  | true => simp [bytes_ev n hg]
  | false => simp

end Go.Proofs.Ytlikjclgpmalkaa.Pure
