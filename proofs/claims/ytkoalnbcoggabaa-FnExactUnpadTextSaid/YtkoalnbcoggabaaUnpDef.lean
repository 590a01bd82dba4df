/- Both paddings at a length: compared, their length, and what their last eight bytes spell. -/
import Derived.Test.YtkoalnbcoggabaaSFnExactUnpadTextx3
namespace Go.Proofs.Ytkoalnbcoggabaa.Pure
open Go.RowKit Go.Proofs.Ytkoalnbcoggabaa.SFnExactUnpadText Go.Proofs.YtkoalnbcoggabaaW.PrintWords Go.Proofs.YtkoalnbcoggabaaW.PrintLast Go.Proofs.YtkoalnbcoggabaaW.PrintMore

/-- the number that bytes spell, none where a part is past the bound -/
def dec8 : List UInt8 → Int → Option Int
  | [], n => some n
  | b :: t, n => if n > 1048576 then none else dec8 t (n * 256 + (b.toNat : Int))
def cmpU (n : Nat) : Option ByteArray → Option ByteArray → Bool
  | some a, some b => a.data.toList == b.data.toList && (decide (9 ≤ a.data.toList.length ∧ a.data.toList.length ≤ 72 ∧ (n + a.data.toList.length) % 64 = 0) && decide (dec8 (a.data.toList.drop (a.data.toList.length - 8)) 0 = some (8 * (n : Int))))
  | _, _ => false
theorem cmpU_spec {n : Nat} {x y : Option ByteArray} (h : cmpU n x y = true) : ∃ t : ByteArray, (9 ≤ t.size ∧ t.size ≤ 72 ∧ (n + t.size) % 64 = 0) ∧ dec8 (t.data.toList.drop (t.size - 8)) 0 = some (8 * (n : Int)) ∧ x = some t ∧ y = some t := by
  match x, y, h with
  | some a, some b, h =>
    simp only [cmpU, Bool.and_eq_true, beq_iff_eq, decide_eq_true_eq] at h
    obtain ⟨he, hl, hd⟩ := h
    have hab : a = b := by
      cases a
      cases b
      congr 1
      exact Array.toList_inj.mp he
    subst hab
    exact ⟨a, hl, hd, rfl, rfl⟩
def padOk (n : Nat) : Bool := cmpU n (spec_l1Tail.f 100 (n : Int)) (impl_padding.f 100 (n : Int))
def padR (a : Nat) : Bool := (List.range 51).all fun i => padOk (a + i)

end Go.Proofs.Ytkoalnbcoggabaa.Pure
