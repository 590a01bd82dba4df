/- The law FnExactHexOf answers true for every string. No condition. -/
import Derived.Test.YtlikjclgpmalkaaSFnExactHexOfx1
import Derived.Laws.BitsLemmas
namespace Go.Proofs.Ytlikjclgpmalkaa.Pure
open Go.RowKit Go.Proofs.Ytlikjclgpmalkaa.SFnExactHexOf Go.Proofs.YtlikjclgpmalkaaW.PrintWords Go.Proofs.YtlikjclgpmalkaaW.PrintLast Go.Proofs.YtlikjclgpmalkaaW.PrintMore

theorem nums_str (l : List UInt8) : strOfNums (l.map fun b => (b.toNat : Int)) = ⟨l.toArray⟩ := by
  unfold strOfNums
  rw [List.map_map]
  congr 2
  have e : ((fun n : Int => UInt8.ofNat n.toNat) ∘ fun b : UInt8 => (b.toNat : Int)) = id := by
    funext b
    simp
  rw [e, List.map_id]

theorem hex_loop (s : ByteArray) (hs : s.size ≤ 600) : ∀ (d i : Nat), i + d = s.size →
    Ev (fun k => spec_l1Hex.l0 k s ((hexL (s.data.toList.take i)).map fun b => (b.toNat : Int)) (i : Int)) (⟨(hexL s.data.toList).toArray⟩ : ByteArray) := by
  intro d
  induction d with
  | zero =>
    intro i hi
    refine Ev.step (f := fun _ => some _) (fun k => ?_) (Ev.now _)
    simp only [spec_l1Hex.l0]
    rw [if_neg (by omega), List.take_of_length_le (by have := Lib.size_eq s; omega), nums_str]
  | succ d ih =>
    intro i hi
    have hlen : ((hexL (s.data.toList.take i)).map fun b => (b.toNat : Int)).length = 2 * i := by
      have := Lib.size_eq s
      simp [hexL_length]
      simp at this
      omega
    have hb0 := (bt_range s (i : Int)).1
    have hb1 := (bt_range s (i : Int)).2
    have h := ih (i + 1) (by omega)
    rw [hex_step s i (by omega), List.map_append] at h
    have ha : Go.bits .and .u8 (bt s (i : Int)) 15 = bt s (i : Int) % 16 := u8_and15 _ (by omega) (by omega)
    have hw : wrap64 ((i : Int) + 1) = ((i + 1 : Nat) : Int) := by unfold wrap64; omega
    refine Ev.step (fun k => ?_) h
    simp only [spec_l1Hex.l0, ha]
    rw [if_pos (by omega), if_pos (by omega), if_pos (by omega), if_pos (by omega), if_pos (by omega), if_pos (by omega), Option.bind_some, if_pos (by rw [hlen]; simp; omega), hw,
      hex_digit_at _ (by omega) (by omega), hex_digit_at _ (by omega) (by omega)]
    rfl

theorem both_ev (s : ByteArray) : ∃ r, Ev (fun k => spec_HexOf.f k s) r ∧ impl_HexOf.f s = some r := by
  unfold spec_HexOf.f impl_HexOf.f
  by_cases h : (s.size : Int) > 600
  · simp only [if_pos h]
    exact ⟨_, Ev.now _, rfl⟩
  · simp only [if_neg h]
    have h1 := hex_loop s (by omega) s.size 0 (by omega)
    refine ⟨((⟨(hexL s.data.toList).toArray⟩ : ByteArray), true), Ev.bind h1 (Ev.now _), ?_⟩
    unfold impl_hexOf.f
    rw [if_pos (by omega)]
    rfl

theorem FnExactHexOf : laws_FnExactHexOf.Pure := by
  intro s _
  obtain ⟨r, hs, hi⟩ := both_ev s
  by_cases h : (s.size : Int) > 1048576
  · exact ⟨0, by unfold laws_FnExactHexOf.f; rw [if_pos h]⟩
  · refine Ev.rounds (Ev.congr (fun k => by unfold laws_FnExactHexOf.f; rw [if_neg h, hi]) (Ev.bind hs ?_))
    simp only [Option.bind_some, if_true, bne_self_eq_false, Bool.false_eq_true, if_false]
    exact Ev.now _

end Go.Proofs.Ytlikjclgpmalkaa.Pure
