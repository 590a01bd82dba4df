/- The law FnExactTurnWord answers true for all numbers. No condition. -/
import Derived.Test.YtlikjclgpmalkaaPFnExactTurnWordx1
namespace Go.Proofs.Ytlikjclgpmalkaa.Pure
open Go.RowKit Go.Proofs.Ytlikjclgpmalkaa.PFnExactTurnWord Go.Proofs.YtlikjclgpmalkaaW.PrintWords Go.Proofs.YtlikjclgpmalkaaW.PrintLast Go.Proofs.YtlikjclgpmalkaaW.PrintMore

theorem and31 : ∀ n : Fin 32, Go.bits .and .u64 (IntKind.u64.wrap (wrap64 (-(n.val : Int)))) 31 = (((32 - n.val) % 32 : Nat) : Int) := by decide +kernel
theorem wr : ∀ n : Fin 33, IntKind.u64.wrap (32 - (n.val : Int)) = 32 - (n.val : Int) := by decide +kernel
theorem wr0 : ∀ n : Fin 32, IntKind.u64.wrap (n.val : Int) = (n.val : Int) := by decide +kernel

theorem bits_or_comm (k : IntKind) (x y : Int) : Go.bits .or k x y = Go.bits .or k y x := by
  unfold Go.bits
  simp only [BitVec.or_comm]

theorem turn_same (x : Int) (h0 : 0 ≤ x) (h1 : x < 4294967296) (n : Nat) (hn : n < 32) : ∃ r, spec_l1Turn.f x (IntKind.u64.wrap (n : Int)) = some r ∧ bits_RotateLeft32.f x (wrap64 (-(n : Int))) = some r := by
  have e1 := wr0 ⟨n, hn⟩
  have e2 := wr ⟨n, by omega⟩
  have e3 := and31 ⟨n, hn⟩
  have e4 := wr ⟨(32 - n) % 32, by omega⟩
  simp only at e1 e2 e3 e4
  unfold spec_l1Turn.f bits_RotateLeft32.f
  rw [e3, e1, e2, e4, if_pos (by omega), if_pos (by omega), if_pos (by omega), if_pos (by omega)]
  refine ⟨_, rfl, ?_⟩
  congr 1
  by_cases hz : n = 0
  · subst hz
    have a1 : shl .u32 x (((32 - 0) % 32 : Nat) : Int) = x := by
      show IntKind.u32.wrap (x * 2 ^ 0) = x
      show (x * 1) % 4294967296 = x
      omega
    have a2 : shr .u32 x (32 - (((32 - 0) % 32 : Nat) : Int)) = 0 := by
      show x / 4294967296 = 0
      omega
    have a3 : shr .u32 x ((0 : Nat) : Int) = x := by
      show x / 1 = x
      omega
    have a4 : shl .u32 x (32 - ((0 : Nat) : Int)) = 0 := by
      show (x * 4294967296) % 4294967296 = 0
      omega
    rw [a1, a2, a3, a4]
  · have e5 : (((32 - n) % 32 : Nat) : Int) = 32 - (n : Int) := by omega
    rw [e5, bits_or_comm]
    congr 2
    omega

theorem both (a b : Int) : ∃ r, spec_TurnWord.f a b = some r ∧ impl_TurnWord.f a b = some r := by
  unfold spec_TurnWord.f impl_TurnWord.f impl_isWord.f spec_l1In.f impl_within.f
  by_cases h1 : a ≥ 0
  · by_cases h2 : a ≤ 4294967295
    · by_cases h3 : b ≥ 0
      · by_cases h4 : b ≤ 31
        · obtain ⟨n, rfl⟩ : ∃ m : Nat, b = (m : Int) := ⟨b.toNat, by omega⟩
          obtain ⟨r, hs, hi⟩ := turn_same (a % 4294967296) (by omega) (by omega) n (by omega)
          simp only [h1, h2, h3, h4, if_true, decide_true, Option.bind_some, hs, hi]
          exact ⟨_, rfl, rfl⟩
        · simp only [h1, h2, h3, h4, if_true, decide_true, decide_false, Option.bind_some, Bool.false_eq_true, if_false]
          exact ⟨_, rfl, rfl⟩
      · simp only [h1, h2, h3, if_true, decide_true, Option.bind_some, Bool.false_eq_true, if_false]
        exact ⟨_, rfl, rfl⟩
    · simp only [h1, h2, if_true, decide_false, Option.bind_some, Bool.false_eq_true, if_false]
      exact ⟨_, rfl, rfl⟩
  · simp only [h1, if_false, Option.bind_some, Bool.false_eq_true]
    exact ⟨_, rfl, rfl⟩

theorem FnExactTurnWord : laws_FnExactTurnWord.Pure := by
  intro a0 a1 _ _
  obtain ⟨r, hs, hi⟩ := both a0 a1
  unfold laws_FnExactTurnWord.f
  rw [hs, hi]
  simp

end Go.Proofs.Ytlikjclgpmalkaa.Pure
