-- Written by sprint.py, a program of this session's, over the kit's print. Not trusted: Lean checks it.
import Derived.Test.YtmajmplhojlhbaaSFnExactArmorOfx0
import Derived.Test.YtmajmplhojlhbaaSFnExactArmorOfx1
namespace Go.Proofs.Ytmajmplhojlhbaa.SFnExactArmorOf
open Go.RowKit Go.Proofs.YtmajmplhojlhbaaW.PrintWords Go.Proofs.YtmajmplhojlhbaaW.PrintLast Go.Proofs.YtmajmplhojlhbaaW.PrintMore
attribute [local go_sem] max2_int min2_int max_two min_two max_three min_three max_four min_four   -- for this text's walks alone
set_option linter.unusedVariables false
set_option linter.unusedSimpArgs false

/-! ### impl_isArmorName: function 13 -/
def impl_isArmorName.l0 : Nat → ByteArray → Int → Int → Option (Bool)
  | 0, _, _, _ => none
  | k + 1, x0, x5, x6 => if x6 < x5 then (if 0 ≤ x6 then (if x6 < (x0.size : Int) then (if (bt x0 x6) < 65 then (some false) else (if (bt x0 x6) > 90 then (some false) else (impl_isArmorName.l0 k x0 x5 (wrap64 (x6 + 1))))) else (none)) else (none)) else ((impl_within.f (x0.size : Int) 1 16).bind fun t120 => (some t120))
def impl_isArmorName.f (k : Nat) (a0 : ByteArray) : Option (Bool) := impl_isArmorName.l0 k a0 (a0.size : Int) 0
theorem impl_isArmorName.mono_l : ∀ k, (∀ y0 y1 y2, LeO (impl_isArmorName.l0 k y0 y1 y2) (impl_isArmorName.l0 (k + 1) y0 y1 y2))
  | 0 => fun _ _ _ r h => by simp [impl_isArmorName.l0] at h
  | k + 1 => by
    have ih0 := impl_isArmorName.mono_l k
    · intro y0 y1 y2
      unfold impl_isArmorName.l0
      repeat' first
      | (with_reducible exact ih0 _ _ _)
      | (with_reducible exact LeO.refl _)
      | (with_reducible exact LeO.none _)
      | (with_reducible refine LeO.ite ?_ ?_)
      | (with_reducible refine LeO.bind ?_ (fun _ => ?_))
      | exact ih0 _ _ _
      | exact LeO.none _
      | refine LeO.ite ?_ ?_
      | refine LeO.bind ?_ (fun _ => ?_)
theorem impl_isArmorName.mono : ∀ a0 k, LeO (impl_isArmorName.f k a0) (impl_isArmorName.f (k + 1) a0) := by
  intro a0 k
  have ih0 := impl_isArmorName.mono_l k
  unfold impl_isArmorName.f
  repeat' first
      | (with_reducible exact ih0 _ _ _)
      | (with_reducible exact LeO.refl _)
      | (with_reducible exact LeO.none _)
      | (with_reducible refine LeO.ite ?_ ?_)
      | (with_reducible refine LeO.bind ?_ (fun _ => ?_))
      | exact ih0 _ _ _
      | exact LeO.none _
      | refine LeO.ite ?_ ?_
      | refine LeO.bind ?_ (fun _ => ?_)
set_option maxHeartbeats 8000000 in
set_option maxRecDepth 100000 in
theorem impl_isArmorName.calls (k : Nat) (a0 : ByteArray) (r : Bool) (w : World) (h : impl_isArmorName.f k a0 = some r) :
    Calls Try.prog 13 #[.string a0] w fun e w' => e = .returned (.bool r) ∧ Drawn0 w w' := by
  have H : (impl_isArmorName.l0 k a0 (a0.size : Int) 0) = some r := h
  clear h
  have H' := Aside0.mk H
  clear H
  go_enter Try.func13, Try.ntmps13
  go_wp2
  go_loopg [6] k (fun kq v6 w' => ∃ (x6_1 : Int), v6 = .int .i64 x6_1 ∧ Aside0 (impl_isArmorName.l0 kq a0 (a0.size : Int) x6_1 = some r) ∧ Aside0 (kq ≤ k) ∧ Drawn0 w w')
  case atStart => exact ⟨(0), (by first | rfl | (simp; done) | (simp [*]; done)), H', ⟨Nat.le_refl _⟩, by repeat (first | exact Drawn0.refl _ | apply Drawn0.step)⟩
  case round =>
    clear H'
    try clear c1
    obtain ⟨x6_1, rfl, HA, HK1, ⟨m1, rfl⟩⟩ := hrel
    cases gk with
    | zero => exact absurd HA.out (by simp [impl_isArmorName.l0])
    | succ k1 =>
      have H := HA.out
      clear HA
      simp only [impl_isArmorName.l0] at H
      by_cases c2 : x6_1 < (a0.size : Int)
      · rw [if_pos c2] at H
        have c2b0 : decide (x6_1 < (a0.size : Int)) = true := decide_eq_true c2
        clear c2
        by_cases c3 : 0 ≤ x6_1
        · rw [if_pos c3] at H
          have c3b0 : decide (0 ≤ x6_1) = true := decide_eq_true c3
          clear c3
          by_cases c4 : x6_1 < (a0.size : Int)
          · rw [if_pos c4] at H
            have c4b0 : decide (x6_1 < (a0.size : Int)) = true := decide_eq_true c4
            clear c4
            by_cases c6 : (bt a0 x6_1) < 65
            · rw [if_pos c6] at H
              have c6b0 : decide ((bt a0 x6_1) < 65) = true := decide_eq_true c6
              clear c6
              obtain rfl := Option.some.inj H
              have p5 : 0 ≤ (x6_1 : Int) := of_decide_eq_true (by first | (with_reducible assumption) | assumption)
              have q5 : x6_1 < (a0.size : Int) := of_decide_eq_true (by first | (with_reducible assumption) | assumption)
              have hx5 := bt_at a0 x6_1
              replace p5 := eq_true p5
              replace q5 := eq_true q5
              go_wp2
              go_ret
              exact ⟨by first | rfl | (simp; done) | (simp [*]; done), by repeat (first | exact Drawn0.refl _ | apply Drawn0.step)⟩
            · rw [if_neg c6] at H
              have c6b0 : decide ((bt a0 x6_1) < 65) = false := decide_eq_false c6
              clear c6
              by_cases c8 : (bt a0 x6_1) > 90
              · rw [if_pos c8] at H
                have c8b0 : decide (90 < (bt a0 x6_1)) = true := decide_eq_true c8
                clear c8
                obtain rfl := Option.some.inj H
                have p5 : 0 ≤ (x6_1 : Int) := of_decide_eq_true (by first | (with_reducible assumption) | assumption)
                have q5 : x6_1 < (a0.size : Int) := of_decide_eq_true (by first | (with_reducible assumption) | assumption)
                have hx5 := bt_at a0 x6_1
                replace p5 := eq_true p5
                replace q5 := eq_true q5
                have p7 : 0 ≤ (x6_1 : Int) := of_decide_eq_true (by first | (with_reducible assumption) | assumption)
                have q7 : x6_1 < (a0.size : Int) := of_decide_eq_true (by first | (with_reducible assumption) | assumption)
                have hx7 := bt_at a0 x6_1
                replace p7 := eq_true p7
                replace q7 := eq_true q7
                go_wp2
                go_ret
                exact ⟨by first | rfl | (simp; done) | (simp [*]; done), by repeat (first | exact Drawn0.refl _ | apply Drawn0.step)⟩
              · rw [if_neg c8] at H
                have c8b0 : decide (90 < (bt a0 x6_1)) = false := decide_eq_false c8
                clear c8
                have H' := Aside0.mk H
                clear H
                have p5 : 0 ≤ (x6_1 : Int) := of_decide_eq_true (by first | (with_reducible assumption) | assumption)
                have q5 : x6_1 < (a0.size : Int) := of_decide_eq_true (by first | (with_reducible assumption) | assumption)
                have hx5 := bt_at a0 x6_1
                replace p5 := eq_true p5
                replace q5 := eq_true q5
                have p7 : 0 ≤ (x6_1 : Int) := of_decide_eq_true (by first | (with_reducible assumption) | assumption)
                have q7 : x6_1 < (a0.size : Int) := of_decide_eq_true (by first | (with_reducible assumption) | assumption)
                have hx7 := bt_at a0 x6_1
                replace p7 := eq_true p7
                replace q7 := eq_true q7
                go_wp2
                go_roundg k1
                case measure => have := HK1.out; omega
                case rel => exact ⟨(wrap64 (x6_1 + 1)), (by first | rfl | (simp; done) | (simp [*]; done)), H', ⟨by have := HK1.out; omega⟩, by repeat (first | exact Drawn0.refl _ | apply Drawn0.step)⟩
          · rw [if_neg c4] at H
            exact absurd H (by simp)
        · rw [if_neg c3] at H
          exact absurd H (by simp)
      · rw [if_neg c2] at H
        have c2b0 : decide (x6_1 < (a0.size : Int)) = false := decide_eq_false c2
        clear c2
        replace H := Option.bind_eq_some_iff.mp H
        obtain ⟨t120, A90, H⟩ := H
        replace H : (some t120) = some r := H
        have A9 := Aside0.mk A90
        clear A90
        obtain rfl := Option.some.inj H
        go_wp2_with (first | ((with_reducible refine gate_callee (f := 20) rfl ?_); refine goesL_ (some 22) rfl rfl Try.func20 (by kernel_rfl) rfl #[.int .i64 (a0.size : Int), .int .i64 1, .int .i64 16] rfl (by (try simp only [List.map_toArray, List.map_cons, List.map_nil]); first | done | rfl | (simp only [List.length_drop, List.length_take]; rfl)) ?_; (with_reducible refine (impl_within.calls (a0.size : Int) 1 16 t120 _ A9.out).mono ?_); rintro e w' ⟨rfl, ⟨nd, rfl⟩⟩; refine ⟨_, rfl, ?_⟩))
        go_ret
        exact ⟨by first | rfl | (simp; done) | (simp [*]; done), by repeat (first | exact Drawn0.refl _ | apply Drawn0.step)⟩

-- NOT PRINTED: function 23 (abi_NoEscape)

-- NOT PRINTED: function 22 (strings_Builder_copyCheck)

-- NOT PRINTED: function 16 (strings_Builder_WriteByte)

-- NOT PRINTED: function 17 (strings_Builder_String)

/-! ### impl_signsOf: function 10 -/
/-- the alphabet's letter -/
def sgT (j : Nat) : UInt8 := UInt8.ofNat (if j < 26 then 65 + j else if j < 52 then 71 + j else if j < 62 then j - 4 else if j = 62 then 43 else 47)
/-- the first i bytes of a group of three, as a number: a byte that is not there counts 0 -/
def sgN (g : List UInt8) : Nat → Nat
  | 0 => 0
  | i + 1 => sgN g i * 256 + (if i < g.length then (g.getD i 0).toNat else 0)
/-- the i-th sign of a group -/
def sgC (g : List UInt8) (i : Nat) : UInt8 := if g.length < i then 61 else sgT (sgN g 3 / 2 ^ (18 - 6 * i) % 64)
def sgG (g : List UInt8) : List UInt8 := [sgC g 0, sgC g 1, sgC g 2, sgC g 3]
def sgL : Nat → List UInt8 → List UInt8
  | 0, _ => []
  | k + 1, l => if l = [] then [] else sgG (l.take 3) ++ sgL k (l.drop 3)
/-- the base64 encoding of bytes -/
def sgE (l : List UInt8) : List UInt8 := sgL l.length l
def impl_signsOf.f (a0 : ByteArray) : Option (ByteArray) := if a0.size ≤ 1000000 then some (⟨(sgE a0.data.toList).toArray⟩ : ByteArray) else none

theorem sgN_lt (g : List UInt8) : ∀ i, sgN g i < 256 ^ i
  | 0 => by simp [sgN]
  | i + 1 => by
    have h := sgN_lt g i
    have hb := (g.getD i 0).toNat_lt
    have e : 256 ^ (i + 1) = 256 ^ i * 256 := Nat.pow_succ 256 i
    rw [sgN, e]
    split <;> omega
theorem sgL_more : ∀ k l, l.length ≤ k → sgL k l = sgL l.length l := by
  intro k
  induction k using Nat.strongRecOn with
  | _ k ih =>
    intro l hl
    match k, l with
    | 0, [] => rfl
    | 0, a :: t => simp at hl
    | k + 1, [] => simp [sgL]
    | k + 1, a :: t =>
      simp only [List.length_cons] at hl ⊢
      rw [sgL, sgL, if_neg (by simp), if_neg (by simp)]
      congr 1
      have h1 : ((a :: t).drop 3).length ≤ t.length := by simp
      rw [ih k (by omega) _ (by omega), ih t.length (by omega) _ h1]
theorem sgE_step (l : List UInt8) (h : l ≠ []) : sgE l = sgG (l.take 3) ++ sgE (l.drop 3) := by
  unfold sgE
  match l, h with
  | a :: t, _ =>
    rw [List.length_cons, sgL, if_neg (by simp)]
    congr 1
    exact sgL_more _ _ (by simp)
theorem sgE_length (l : List UInt8) : (sgE l).length ≤ 4 * l.length := by
  unfold sgE
  have h : ∀ k (l : List UInt8), (sgL k l).length ≤ 4 * k := by
    intro k
    induction k with
    | zero => intro l; simp [sgL]
    | succ k ih =>
      intro l
      rw [sgL]
      split
      · simp
      · simp [sgG]
        have := ih (l.drop 3)
        omega
  exact h _ _
theorem sg_letter : ∀ j : Fin 64, bt (⟨#[65, 66, 67, 68, 69, 70, 71, 72, 73, 74, 75, 76, 77, 78, 79, 80, 81, 82, 83, 84, 85, 86, 87, 88, 89, 90, 97, 98, 99, 100, 101, 102, 103, 104, 105, 106, 107, 108, 109, 110, 111, 112, 113, 114, 115, 116, 117, 118, 119, 120, 121, 122, 48, 49, 50, 51, 52, 53, 54, 55, 56, 57, 43, 47]⟩ : ByteArray) (j.val : Int) = ((sgT j.val).toNat : Int) := by decide +kernel
theorem sg_letter_at (x : Int) (h0 : 0 ≤ x) (h1 : x < 64) : bt (⟨#[65, 66, 67, 68, 69, 70, 71, 72, 73, 74, 75, 76, 77, 78, 79, 80, 81, 82, 83, 84, 85, 86, 87, 88, 89, 90, 97, 98, 99, 100, 101, 102, 103, 104, 105, 106, 107, 108, 109, 110, 111, 112, 113, 114, 115, 116, 117, 118, 119, 120, 121, 122, 48, 49, 50, 51, 52, 53, 54, 55, 56, 57, 43, 47]⟩ : ByteArray) x = ((sgT x.toNat).toNat : Int) := by
  have h := sg_letter ⟨x.toNat, by omega⟩
  have e : ((x.toNat : Nat) : Int) = x := by omega
  simpa only [e] using h
theorem sg_write_byte (B b : Nat) (bs : List Value) (c : Int) (w : World) (h : Lib.IsBuilder 34 5 B b bs w) (hlen : bs.length + 1 ≤ 140737488355328) (hBw : B ≤ w.heap.size) :
    Calls Try.prog 16 #[.pointer (some ⟨b, 0, none⟩), .int .u8 c] w fun e w' => e = .returned .nilIface ∧ (Lib.BuilderAt 34 5 B b (.pointer (some ⟨b, 0, none⟩)) (bs ++ [.int .u8 c]) w' ∧ Below B w w') :=
  Any.Builder_WriteByte lays167 builder167 B b bs c w h hlen hBw
theorem sg_builder_string (B b : Nat) (l : List UInt8) (w : World) (h : Lib.IsBuilder 34 5 B b (Lib.byteCells l) w) (hBw : B ≤ w.heap.size) :
    Calls Try.prog 17 #[.pointer (some ⟨b, 0, none⟩)] w fun e w' => e = .returned (.string ⟨l.toArray⟩) ∧ Below B w w' :=
  Any.Builder_String_any lays169 builder169 B b l w h hBw
theorem sg_wraps (n : Int) (h0 : 0 ≤ n) (h1 : n < 2 ^ 40) : IntKind.i64.wrap n = n := by
  rw [IntKind.wrap_i64]
  have : (2 : Int) ^ 40 = 1099511627776 := by decide
  omega
theorem sg_or (n b : Int) (h0 : 0 ≤ n) (h1 : n < 4294967296) (hb0 : 0 ≤ b) (hb1 : b < 256) : Go.bits .or .i64 (n * 256) b = n * 256 + b := by
  have l40 : (2 : Int) ^ 40 = 1099511627776 := by decide
  exact bits_join .i64 40 (by decide) sg_wraps 8 (n * 256) b (by omega) (by omega) (by omega) hb0 (by omega) (by omega)
theorem sg_and (x : Int) (h0 : 0 ≤ x) (h1 : x < 1000000000) : Go.bits .and .i64 x 63 = x % 64 := by
  have l40 : (2 : Int) ^ 40 = 1099511627776 := by decide
  exact bits_mask .i64 40 (by decide) sg_wraps 6 (by decide) x h0 (by omega)
theorem sg_bt (g : ByteArray) (i : Nat) (h : i < g.size) : bt g (i : Int) = ((g.data.toList.getD i 0).toNat : Int) := by
  have hl : i < g.data.toList.length := by rw [← Lib.size_eq]; exact h
  unfold bt
  simp only [Int.toNat_natCast]
  rw [dif_pos h, List.getD_eq_getElem?_getD, List.getElem?_eq_getElem hl]
  simp
  rfl
theorem sg_take (g : List UInt8) (j : Nat) (h : j < 4) : (sgG g).take (j + 1) = (sgG g).take j ++ [sgC g j] := by
  match j, h with
  | 0, _ => rfl
  | 1, _ => rfl
  | 2, _ => rfl
  | 3, _ => rfl
set_option maxHeartbeats 2000000 in
theorem impl_signsOf.calls (a0 : ByteArray) (r : ByteArray) (w : World) (h : impl_signsOf.f a0 = some r) :
    Calls Try.prog 10 #[.string a0] w fun e w' => e = .returned (.string r) ∧ Below w.heap.size w w' := by
  have hsz : a0.size ≤ 1000000 := by
    unfold impl_signsOf.f at h
    split at h
    · assumption
    · cases h
  have hr : r = (⟨(sgE a0.data.toList).toArray⟩ : ByteArray) := by
    unfold impl_signsOf.f at h
    rw [if_pos hsz] at h
    exact (Option.some.inj h).symm
  clear h
  have Hr := Aside0.mk hr
  clear hr
  have h0 := Aside0.mk (Lib.fresh_isBuilder 34 5 w)
  have b0 := Aside0.mk ((Below.refl _ w).alloc (Nat.le_refl _) (.cells #[.pointer none, .slice none 0 0] 34))
  go_enter Try.func10, Try.ntmps10
  go_wp2
  go_loopg [0] (a0.size) (fun kq v0 w' => ∃ (x : ByteArray) (acc : List UInt8), v0 = .string x ∧ Aside0 (x.size = kq) ∧ Aside0 (acc ++ sgE x.data.toList = sgE a0.data.toList) ∧ Aside0 (acc.length + 4 * x.size ≤ 4000000) ∧ Aside0 (Lib.IsBuilder 34 5 w.heap.size w.heap.size (Lib.byteCells acc) w') ∧ Aside0 (Below w.heap.size w w'))
  case atStart =>
    exact ⟨a0, [], rfl, ⟨rfl⟩, ⟨rfl⟩, ⟨by simp; omega⟩, ⟨by simpa [Lib.byteCells] using h0.out⟩, b0⟩
  case round =>
    clear h0 b0
    obtain ⟨x, acc, rfl, hkq, hacc, hlen, hI, hB⟩ := hrel
    by_cases hne : x.toList = []
    · have c1 : (x.toList == ([] : List UInt8)) = true := beq_iff_eq.mpr hne
      have c2 : (x.toList != ([] : List UInt8)) = false := bne_eq_false_iff_eq.mpr hne
      go_wp2_with fail
      refine (sg_builder_string w.heap.size w.heap.size _ _ hI.out hB.out.size).mono ?_
      rintro e w1 ⟨rfl, b1⟩
      have B1 := Aside0.mk (hB.out.trans b1)
      clear b1
      go_wp2
      go_ret
      refine ⟨?_, B1.out⟩
      have he := hacc.out
      rw [Lib.toList_data] at hne
      rw [hne] at he
      have he2 : acc = sgE a0.data.toList := by simpa [sgE, sgL] using he
      rw [Hr.out, ← he2]
      rfl
    · have c1 : (x.toList == ([] : List UInt8)) = false := beq_eq_false_iff_ne.mpr hne
      have c2 : (x.toList != ([] : List UInt8)) = true := bne_iff_ne.mpr hne
      have hpos : 0 < x.size := by
        rw [Lib.size_eq]
        rw [Lib.toList_data] at hne
        exact List.length_pos_iff.mpr hne
      obtain ⟨m, hm⟩ : ∃ m : Nat, (if (x.size : Int) < 3 then (x.size : Int) else 3) = (m : Int) := ⟨min 3 x.size, by split <;> omega⟩
      have hm1 : m ≤ x.size ∧ m ≤ 3 ∧ 1 ≤ m ∧ (m = 3 ∨ m = x.size) := by split at hm <;> omega
      have Hm := Aside0.mk hm1
      have hmx : m ≤ x.size := hm1.1
      clear hm1
      have p1 := eq_true (show (0 : Int) ≤ (m : Int) by omega)
      have p2 := eq_true (show (m : Int) ≤ (x.size : Int) by omega)
      obtain ⟨g, hg⟩ : ∃ g, x.extract 0 m = g := ⟨_, rfl⟩
      have hgs : g.size = m := by rw [← hg, ByteArray.size_extract]; omega
      have Hg := Aside0.mk hg
      have Hgs := Aside0.mk hgs
      have HM := Aside0.mk hm
      go_wp2_with fail
      obtain ⟨wo, hwo⟩ : ∃ wo : World, wo = wr := ⟨_, rfl⟩
      rw [← hwo] at hI hB ⊢
      clear hwo hg hm p1 p2
      obtain ⟨gq, hgq⟩ : ∃ q : Nat, q = gk := ⟨_, rfl⟩
      go_loopg [5, 20] 3 (fun kq v5 v20 w' => ∃ (i : Nat) (n : Int), v20 = .int .i64 (i : Int) ∧ v5 = .int .i64 n ∧ Aside0 (n = (sgN g.data.toList i : Int)) ∧ Aside0 (i + kq = 3) ∧ w' = wo)
      case atStart =>
        exact ⟨0, 0, rfl, rfl, ⟨rfl⟩, ⟨rfl⟩, rfl⟩
      case round =>
        obtain ⟨i, n, rfl, rfl, hn, hik, rfl⟩ := hrel
        have hgl : g.data.toList.length = m := by rw [← Lib.size_eq]; exact Hgs.out
        have hnb := sgN_lt g.data.toList i
        by_cases h3 : i < 3
        · have d1 : decide ((i : Int) < 3) = true := decide_eq_true (by omega)
          have n0 : 0 ≤ n := by have := hn.out; omega
          have n1 : n < 65536 := by
            have := hn.out
            have e : 256 ^ i ≤ 256 ^ 2 := Nat.pow_le_pow_right (by omega) (by omega)
            have e2 : 256 ^ 2 = 65536 := by decide
            omega
          clear hnb
          have HL := Aside0.mk hgl
          clear hgl
          by_cases him : i < m
          · have d2 : decide ((i : Int) < (m : Int)) = true := decide_eq_true (by omega)
            have hb0 := (bt_range g (i : Int)).1
            have hb1 := (bt_range g (i : Int)).2
            have hx4 : ∀ h : i < m, ((g[i]'(by rw [Hgs.out]; exact h)).toNat : Int) = bt g (i : Int) := fun h => by unfold bt; simp only [Int.toNat_natCast]; rw [dif_pos (by rw [Hgs.out]; exact h)]
            go_wp2_with fail
            go_roundg (gk - 1)
            case measure => have := hik.out; omega
            case rel =>
              refine ⟨i + 1, _, by simp, rfl, ⟨?_⟩, ⟨by have := hik.out; omega⟩, rfl⟩
              rw [sg_or n _ n0 (by omega) hb0 (by omega), hn.out, sgN, if_pos (by have := HL.out; omega), sg_bt g i (by have := Hgs.out; omega)]
              simp
          · have d2 : decide ((i : Int) < (m : Int)) = false := decide_eq_false (by omega)
            go_wp2_with fail
            go_roundg (gk - 1)
            case measure => have := hik.out; omega
            case rel =>
              refine ⟨i + 1, _, by simp, rfl, ⟨?_⟩, ⟨by have := hik.out; omega⟩, rfl⟩
              rw [hn.out, sgN, if_neg (by have := HL.out; omega)]
              simp
        · have hi3 : i = 3 := by have := hik.out; omega
          have d1 : decide ((i : Int) < 3) = false := decide_eq_false (by omega)
          have n0 : 0 ≤ n := by have := hn.out; omega
          have n1 : n < 16777216 := by
            have := hn.out
            rw [hi3] at hnb
            rw [hi3] at this
            have e2 : 256 ^ 3 = 16777216 := by decide
            omega
          have HN := Aside0.mk (show n = (sgN g.data.toList 3 : Int) by rw [hn.out, hi3])
          have HL := Aside0.mk hgl
          clear hgl hnb hn hi3
          go_wp2_with fail
          obtain ⟨wp, hwp⟩ : ∃ wp : World, wp = wr := ⟨_, rfl⟩
          rw [← hwp] at hI hB ⊢
          clear hwp hik
          go_loopg [36] 4 (fun kq v36 w' => ∃ (j : Nat), v36 = .int .i64 (j : Int) ∧ Aside0 (j + kq = 4) ∧ Aside0 (Lib.IsBuilder 34 5 w.heap.size w.heap.size (Lib.byteCells (acc ++ (sgG g.data.toList).take j)) w') ∧ Aside0 (Below w.heap.size w w'))
          case atStart => exact ⟨0, rfl, ⟨rfl⟩, ⟨by simpa using hI.out⟩, hB⟩
          case round =>
            clear hI hB
            obtain ⟨j, rfl, hjk, hI, hB⟩ := hrel
            by_cases h4 : j < 4
            · have d2 : decide ((j : Int) < 4) = true := decide_eq_true (by omega)
              have hlen2 : (Lib.byteCells (acc ++ (sgG g.data.toList).take j)).length ≤ 5000000 := by
                have := hlen.out
                simp [Lib.byteCells, sgG]
                omega
              have HL2 := Aside0.mk hlen2
              clear hlen2
              by_cases hmj : m < j
              · have d3 : decide ((m : Int) < (j : Int)) = true := decide_eq_true (by omega)
                go_wp2_with fail
                refine (sg_write_byte w.heap.size w.heap.size _ _ _ hI.out (by have := HL2.out; omega) hB.out.size).mono ?_
                rintro e w1 ⟨rfl, h1, b1⟩
                have I1 := Aside0.mk (show Lib.IsBuilder _ _ _ _ _ _ from Or.inr h1)
                have B1 := Aside0.mk (hB.out.trans b1)
                clear h1 b1
                go_wp2
                go_roundg (gk - 1)
                case measure => have := hjk.out; omega
                case rel =>
                  refine ⟨j + 1, by simp, ⟨by have := hjk.out; omega⟩, ⟨?_⟩, B1⟩
                  have hc : sgC g.data.toList j = 61 := by unfold sgC; rw [if_pos (by have := HL.out; omega)]
                  rw [sg_take g.data.toList j h4, hc, ← List.append_assoc]
                  have e : Lib.byteCells (acc ++ (sgG g.data.toList).take j ++ [61]) = Lib.byteCells (acc ++ (sgG g.data.toList).take j) ++ [.int .u8 61] := by simp [Lib.byteCells]
                  rw [e]
                  exact I1.out
              · have d3 : decide ((m : Int) < (j : Int)) = false := decide_eq_false (by omega)
                obtain ⟨q, hq⟩ : ∃ q : Int, Go.bits .and .i64 (n / 2 ^ (18 - 6 * j)) 63 = q := ⟨_, rfl⟩
                have hqv : q = ((sgN g.data.toList 3 / 2 ^ (18 - 6 * j) % 64 : Nat) : Int) := by
                  rw [← hq, HN.out]
                  have hlt : sgN g.data.toList 3 / 2 ^ (18 - 6 * j) ≤ sgN g.data.toList 3 := Nat.div_le_self _ _
                  have hcast : ((sgN g.data.toList 3 : Nat) : Int) / 2 ^ (18 - 6 * j) = ((sgN g.data.toList 3 / 2 ^ (18 - 6 * j) : Nat) : Int) := by simp
                  have hN := HN.out
                  obtain ⟨z, hz⟩ : ∃ z : Nat, sgN g.data.toList 3 / 2 ^ (18 - 6 * j) = z := ⟨_, rfl⟩
                  rw [hz] at hlt hcast ⊢
                  rw [hcast, sg_and _ (by omega) (by omega)]
                  omega
                have r1 : 0 ≤ q ∧ q < 64 := by omega
                have hx8 := (fun h => (bt_at (⟨#[65, 66, 67, 68, 69, 70, 71, 72, 73, 74, 75, 76, 77, 78, 79, 80, 81, 82, 83, 84, 85, 86, 87, 88, 89, 90, 97, 98, 99, 100, 101, 102, 103, 104, 105, 106, 107, 108, 109, 110, 111, 112, 113, 114, 115, 116, 117, 118, 119, 120, 121, 122, 48, 49, 50, 51, 52, 53, 54, 55, 56, 57, 43, 47]⟩ : ByteArray) q h).trans (sg_letter_at q r1.1 r1.2))
                have p8 := eq_true r1.1
                have q8 := eq_true r1.2
                have HQ := Aside0.mk hqv
                clear r1 hqv
                go_wp2_with fail
                refine (sg_write_byte w.heap.size w.heap.size _ _ _ hI.out (by have := HL2.out; omega) hB.out.size).mono ?_
                rintro e w1 ⟨rfl, h1, b1⟩
                have I1 := Aside0.mk (show Lib.IsBuilder _ _ _ _ _ _ from Or.inr h1)
                have B1 := Aside0.mk (hB.out.trans b1)
                clear h1 b1
                go_wp2
                go_roundg (gk - 1)
                case measure => have := hjk.out; omega
                case rel =>
                  refine ⟨j + 1, by simp, ⟨by have := hjk.out; omega⟩, ⟨?_⟩, B1⟩
                  have hqt : q.toNat = sgN g.data.toList 3 / 2 ^ (18 - 6 * j) % 64 := by have := HQ.out; omega
                  have hc : sgC g.data.toList j = sgT q.toNat := by unfold sgC; rw [if_neg (by have := HL.out; omega), hqt]
                  rw [sg_take g.data.toList j h4, hc, ← List.append_assoc]
                  have e : Lib.byteCells (acc ++ (sgG g.data.toList).take j ++ [sgT q.toNat]) = Lib.byteCells (acc ++ (sgG g.data.toList).take j) ++ [.int .u8 ((sgT q.toNat).toNat : Int)] := by simp [Lib.byteCells]
                  rw [e]
                  exact I1.out
            · have d2 : decide ((j : Int) < 4) = false := decide_eq_false (by omega)
              have hm := HM.out
              have p1 := eq_true (show (0 : Int) ≤ (m : Int) by omega)
              have p2 := eq_true (show (m : Int) ≤ (x.size : Int) by omega)
              go_wp2_with fail
              have hxs : (x.extract m x.size).size = x.size - m := by rw [ByteArray.size_extract]; omega
              have hm1 := Hm.out
              go_roundg (x.size - m)
              case measure => have := hkq.out; omega
              case rel =>
                have hxl := Lib.size_eq x
                have hlx : x.data.toList ≠ [] := by intro h0; rw [h0] at hxl; have hx0 : x.size = 0 := hxl; omega
                have hstep := sgE_step x.data.toList hlx
                have hgd : g.data.toList = x.data.toList.take 3 := by
                  rw [← Hg.out, Lib.extract_data, List.drop_zero, Nat.sub_zero]
                  rcases hm1.2.2.2 with h5 | h5
                  · rw [h5]
                  · rw [List.take_of_length_le (by omega), List.take_of_length_le (by omega)]
                have hdr : (x.extract m x.size).data.toList = x.data.toList.drop 3 := by
                  rw [Lib.extract_data, List.take_of_length_le (by rw [List.length_drop]; omega)]
                  rcases hm1.2.2.2 with h5 | h5
                  · rw [h5]
                  · rw [List.drop_eq_nil_of_le (by omega), List.drop_eq_nil_of_le (by omega)]
                refine ⟨x.extract m x.size, acc ++ sgG g.data.toList, rfl, ⟨hxs⟩, ⟨?_⟩, ⟨?_⟩, ⟨?_⟩, hB⟩
                · rw [List.append_assoc, hdr, hgd, ← hstep]
                  exact hacc.out
                · have := hlen.out
                  rw [hxs, List.length_append]
                  have e4 : (sgG g.data.toList).length = 4 := rfl
                  omega
                · have hj4 : j = 4 := by have := hjk.out; omega
                  have hI' := hI.out
                  rw [hj4] at hI'
                  exact hI'


/-! ### impl_linesOf: function 21 -/
def impl_linesOf.l0 : Nat → ByteArray → Int → List ByteArray → Option (List ByteArray)
  | 0, _, _, _ => none
  | k + 1, x0, x1, x5 => if x0.toList = ([] : List UInt8) then (some x5) else (if 0 ≤ (mn x1 (x0.size : Int)) then (if (mn x1 (x0.size : Int)) ≤ (x0.size : Int) then (if x5.length < 8796093022208 then (impl_linesOf.l0 k (x0.extract ((mn x1 (x0.size : Int)) : Int).toNat x0.size) x1 (x5 ++ [x0.extract 0 ((mn x1 (x0.size : Int)) : Int).toNat])) else (none)) else (none)) else (none))
def impl_linesOf.f (k : Nat) (a0 : ByteArray) (a1 : Int) : Option (List ByteArray) := impl_linesOf.l0 k a0 a1 ([] : List ByteArray)
theorem impl_linesOf.mono_l : ∀ k, (∀ y0 y1 y2, LeO (impl_linesOf.l0 k y0 y1 y2) (impl_linesOf.l0 (k + 1) y0 y1 y2))
  | 0 => fun _ _ _ r h => by simp [impl_linesOf.l0] at h
  | k + 1 => by
    have ih0 := impl_linesOf.mono_l k
    · intro y0 y1 y2
      unfold impl_linesOf.l0
      repeat' first
      | (with_reducible exact ih0 _ _ _)
      | (with_reducible exact LeO.refl _)
      | (with_reducible exact LeO.none _)
      | (with_reducible refine LeO.ite ?_ ?_)
      | (with_reducible refine LeO.bind ?_ (fun _ => ?_))
      | exact ih0 _ _ _
      | exact LeO.none _
      | refine LeO.ite ?_ ?_
      | refine LeO.bind ?_ (fun _ => ?_)
theorem impl_linesOf.mono : ∀ a0 a1 k, LeO (impl_linesOf.f k a0 a1) (impl_linesOf.f (k + 1) a0 a1) := by
  intro a0 a1 k
  have ih0 := impl_linesOf.mono_l k
  unfold impl_linesOf.f
  repeat' first
      | (with_reducible exact ih0 _ _ _)
      | (with_reducible exact LeO.refl _)
      | (with_reducible exact LeO.none _)
      | (with_reducible refine LeO.ite ?_ ?_)
      | (with_reducible refine LeO.bind ?_ (fun _ => ?_))
      | exact ih0 _ _ _
      | exact LeO.none _
      | refine LeO.ite ?_ ?_
      | refine LeO.bind ?_ (fun _ => ?_)
set_option maxHeartbeats 8000000 in
set_option maxRecDepth 100000 in
theorem impl_linesOf.calls (k : Nat) (a0 : ByteArray) (a1 : Int) (r : List ByteArray) (w : World) (h : impl_linesOf.f k a0 a1 = some r) :
    Calls Try.prog 21 #[.string a0, .int .i64 a1] w fun e w' => ∃ v0_ : Value, e = .returned (v0_) ∧ Kd.R Kd.string 9 w' w.heap.size (fun _ => True) v0_ r ∧ Below w.heap.size w w' := by
  have HB := Aside0.mk (Below.refl w.heap.size w)
  have H : (impl_linesOf.l0 k a0 a1 ([] : List ByteArray)) = some r := h
  clear h
  have H' := Aside0.mk H
  clear H
  go_enter Try.func21, Try.ntmps21
  go_wp2
  go_loopg [0, 5] k (fun kq v0 v5 w' => ∃ (x0_1 : ByteArray) (x5_1 : List ByteArray), v0 = .string x0_1 ∧ Aside0 (impl_linesOf.l0 kq x0_1 a1 x5_1 = some r) ∧ Aside0 (kq ≤ k) ∧ Aside0 (Kd.R Kd.string 9 w' w.heap.size (fun _ => True) v5 x5_1) ∧ Aside0 (Below w.heap.size w w'))
  case atStart => exact ⟨(a0), (([] : List ByteArray)), (by first | rfl | (simp; done) | (simp [*]; done)), H', ⟨Nat.le_refl _⟩, ⟨by first | exact Kd.R_nil _ _ _ _ _ | exact Kd.N_nil _ _ _ _ _ | exact Kd.V_nil _ _ _ _ _ | exact Kd.Q_nil _ _ _ _ _ | exact Kd.S_nil _ _ _ _ _⟩, ⟨by repeat (first | (with_reducible first | exact HB.out | apply below_alloc | apply pw_below_drewN | apply below_drew1) | exact HB.out)⟩⟩
  case round =>
    clear H'
    try clear c2
    try clear p2
    obtain ⟨x0_1, x5_1, rfl, HA, HK1, HO_5, HB⟩ := hrel
    cases gk with
    | zero => exact absurd HA.out (by simp [impl_linesOf.l0])
    | succ k1 =>
      have H := HA.out
      clear HA
      simp only [impl_linesOf.l0] at H
      by_cases c3 : x0_1.toList = ([] : List UInt8)
      · rw [if_pos c3] at H
        have c3b0 : (x0_1.toList == ([] : List UInt8)) = true := beq_iff_eq.mpr c3
        have c3b1 : (x0_1.toList != ([] : List UInt8)) = false := bne_eq_false_iff_eq.mpr c3
        clear c3
        obtain rfl := Option.some.inj H
        go_wp2
        go_ret
        exact ⟨_, by first | rfl | (simp [errW_none, errW_some] <;> rfl) | (simp [*, errW_none, errW_some] <;> rfl), by (with_reducible repeat (first | apply Kd.R_alloc | apply Kd.R_drewN | apply Kd.R_drew)); exact HO_5.out, by repeat (first | (with_reducible first | exact HB.out | apply below_alloc | apply pw_below_drewN | apply below_drew1) | exact HB.out)⟩
      · rw [if_neg c3] at H
        have c3b0 : (x0_1.toList == ([] : List UInt8)) = false := beq_eq_false_iff_ne.mpr c3
        have c3b1 : (x0_1.toList != ([] : List UInt8)) = true := bne_iff_ne.mpr c3
        obtain ⟨ji4, hji4⟩ : ∃ j_ : Int, (mn a1 (x0_1.size : Int)) = j_ := ⟨_, rfl⟩
        replace H : (if 0 ≤ (ji4) then (if (ji4) ≤ (x0_1.size : Int) then (if x5_1.length < 8796093022208 then (impl_linesOf.l0 k1 (x0_1.extract ((ji4) : Int).toNat x0_1.size) a1 (x5_1 ++ [x0_1.extract 0 ((ji4) : Int).toNat])) else (none)) else (none)) else (none)) = some r := by first | (rw [hji4] at H; exact H) | (simp only [hji4] at H ⊢; exact H)
        have hji4_ : (if (x0_1.size : Int) < a1 then (x0_1.size : Int) else a1) = ji4 := hji4
        by_cases c5 : 0 ≤ (ji4)
        · rw [if_pos c5] at H
          have c5b0 := eq_true c5
          have c5b1 : decide (0 ≤ (ji4)) = true := decide_eq_true c5
          clear c5
          by_cases c6 : (ji4) ≤ (x0_1.size : Int)
          · rw [if_pos c6] at H
            have c6b0 := eq_true c6
            have c6b1 : decide ((ji4) ≤ (x0_1.size : Int)) = true := decide_eq_true c6
            clear c6
            by_cases c7 : x5_1.length < 8796093022208
            · rw [if_pos c7] at H
              have LMc7 := Aside0.mk c7
              clear c7
              obtain ⟨y121, hy121⟩ : ∃ y_ : List ByteArray, y_ = (x5_1 ++ [x0_1.extract 0 ((ji4) : Int).toNat]) := ⟨_, rfl⟩
              replace H : (impl_linesOf.l0 k1 (x0_1.extract ((ji4) : Int).toNat x0_1.size) a1 y121) = some r := by first | (rw [hy121]; with_reducible exact H) | (have H2_ := (Option.bind_some _ _).symm.trans H; rw [hy121]; with_reducible exact H2_) | (have H2_ := (Option.bind_some _ _).symm.trans H; with_reducible exact H2_) | with_reducible exact H | (rw [hy121]; exact H) | exact H
              have Ny121 := Aside0.mk hy121
              clear hy121
              have c8b0 := eq_true (of_decide_eq_true (by first | (with_reducible assumption) | assumption) : 0 ≤ (ji4))
              have c9b0 := eq_true (of_decide_eq_true (by first | (with_reducible assumption) | assumption) : (ji4) ≤ (x0_1.size : Int))
              have H' := Aside0.mk H
              clear H
              go_wp2_with (first | ((with_reducible refine gate_builtin (b := .append) (xs := #[.tmp 14, .tmp 21]) rfl ?_); at_builtin; refine Kd.R_append Kd.string (w0 := w) w.heap.size rfl (.tmp 14) (.tmp 21) 40 9 (.string ⟨#[]⟩) 16 rfl Try.underlying40 info9 rfl (by decide) (by omega) u5 x5_1 (x0_1.extract 0 ((ji4) : Int).toNat) [.string (x0_1.extract 0 ((ji4) : Int).toNat)] (fun _ => True) (fun _ => False) rfl rfl ?aP (fun _ hk => hk.elim) ?aF ?aO ?aB ?aS ?aL ?_; (case aP => exact rfl); (case aB => exact (by repeat (first | (with_reducible first | exact HB.out | apply below_alloc | apply pw_below_drewN | apply below_drew1) | exact HB.out))); (case aF => exact (fun _ _ => trivial)); (case aO => exact (by (with_reducible repeat (first | apply Kd.R_alloc | apply Kd.R_drewN | apply Kd.R_drew)); exact HO_5.out)); (case aS => exact (below_size (by repeat (first | (with_reducible first | exact HB.out | apply below_alloc | apply pw_below_drewN | apply below_drew1) | exact HB.out)))); (case aL => have := LMc7.out; omega); intro v122 w10 ho hb hg hat; rw [← Ny121.out] at ho; have n0_ := Aside0.mk (hb); have n1_ := Aside0.mk (ho); clear HB; clear HO_5; have HB := n0_; have HO123 := n1_; clear n0_ n1_; clear ho hb hg hat))
              go_roundg k1
              case measure => have := HK1.out; omega
              case rel => exact ⟨(x0_1.extract ((ji4) : Int).toNat x0_1.size), (y121), (by first | rfl | (simp; done) | (simp only [← hji4] <;> (first | rfl | simp)) | (simp [*]; done)), H', ⟨by have := HK1.out; omega⟩, ⟨by (with_reducible repeat (first | apply Kd.R_alloc | apply Kd.R_drewN | apply Kd.R_drew)); exact HO123.out⟩, ⟨by repeat (first | (with_reducible first | exact HB.out | apply below_alloc | apply pw_below_drewN | apply below_drew1) | exact HB.out)⟩⟩
            · rw [if_neg c7] at H
              exact absurd H (by simp)
          · rw [if_neg c6] at H
            exact absurd H (by simp)
        · rw [if_neg c5] at H
          exact absurd H (by simp)

/-! ### impl_armorOf: function 14 -/
def impl_armorOf.l0 : Nat → ByteArray → ByteArray → List ByteArray → Int → Int → Option (ByteArray)
  | 0, _, _, _, _, _ => none
  | k + 1, x0, x5, x13, x14, x15 => if x15 < x14 then (if 0 ≤ x15 then (if x15 < (x13.length : Int) then (if (rdOf ByteArray.empty x13 x15).size + 1 ≤ 9223372036854775807 then (if x5.size + ((rdOf ByteArray.empty x13 x15) ++ (⟨#[10]⟩ : ByteArray)).size ≤ 9223372036854775807 then (impl_armorOf.l0 k x0 (x5 ++ ((rdOf ByteArray.empty x13 x15) ++ (⟨#[10]⟩ : ByteArray))) x13 x14 (wrap64 (x15 + 1))) else (none)) else (none)) else (none)) else (none)) else (if x5.size + 9 ≤ 9223372036854775807 then (if (x5 ++ (⟨#[45, 45, 45, 45, 45, 69, 78, 68, 32]⟩ : ByteArray)).size + x0.size ≤ 9223372036854775807 then (if ((x5 ++ (⟨#[45, 45, 45, 45, 45, 69, 78, 68, 32]⟩ : ByteArray)) ++ x0).size + 6 ≤ 9223372036854775807 then (some (((x5 ++ (⟨#[45, 45, 45, 45, 45, 69, 78, 68, 32]⟩ : ByteArray)) ++ x0) ++ (⟨#[45, 45, 45, 45, 45, 10]⟩ : ByteArray))) else (none)) else (none)) else (none))
def impl_armorOf.f (k : Nat) (a0 : ByteArray) (a1 : ByteArray) : Option (ByteArray) := if 11 + a0.size ≤ 9223372036854775807 then (if ((⟨#[45, 45, 45, 45, 45, 66, 69, 71, 73, 78, 32]⟩ : ByteArray) ++ a0).size + 6 ≤ 9223372036854775807 then ((impl_signsOf.f a1).bind fun t124 => ((impl_linesOf.f k t124 64).bind fun t125 => (impl_armorOf.l0 k a0 (((⟨#[45, 45, 45, 45, 45, 66, 69, 71, 73, 78, 32]⟩ : ByteArray) ++ a0) ++ (⟨#[45, 45, 45, 45, 45, 10]⟩ : ByteArray)) t125 (t125.length : Int) 0))) else (none)) else (none)
theorem impl_armorOf.mono_l : ∀ k, (∀ y0 y1 y2 y3 y4, LeO (impl_armorOf.l0 k y0 y1 y2 y3 y4) (impl_armorOf.l0 (k + 1) y0 y1 y2 y3 y4))
  | 0 => fun _ _ _ _ _ r h => by simp [impl_armorOf.l0] at h
  | k + 1 => by
    have ih0 := impl_armorOf.mono_l k
    · intro y0 y1 y2 y3 y4
      unfold impl_armorOf.l0
      repeat' first
      | (with_reducible exact ih0 _ _ _ _ _)
      | (with_reducible exact impl_linesOf.mono _ _ _)
      | (with_reducible exact LeO.refl _)
      | (with_reducible exact LeO.none _)
      | (with_reducible refine LeO.ite ?_ ?_)
      | (with_reducible refine LeO.bind ?_ (fun _ => ?_))
      | exact ih0 _ _ _ _ _
      | exact impl_linesOf.mono _ _ _
      | exact LeO.none _
      | refine LeO.ite ?_ ?_
      | refine LeO.bind ?_ (fun _ => ?_)
theorem impl_armorOf.mono : ∀ a0 a1 k, LeO (impl_armorOf.f k a0 a1) (impl_armorOf.f (k + 1) a0 a1) := by
  intro a0 a1 k
  have ih0 := impl_armorOf.mono_l k
  unfold impl_armorOf.f
  repeat' first
      | (with_reducible exact ih0 _ _ _ _ _)
      | (with_reducible exact impl_linesOf.mono _ _ _)
      | (with_reducible exact LeO.refl _)
      | (with_reducible exact LeO.none _)
      | (with_reducible refine LeO.ite ?_ ?_)
      | (with_reducible refine LeO.bind ?_ (fun _ => ?_))
      | exact ih0 _ _ _ _ _
      | exact impl_linesOf.mono _ _ _
      | exact LeO.none _
      | refine LeO.ite ?_ ?_
      | refine LeO.bind ?_ (fun _ => ?_)
set_option maxHeartbeats 8000000 in
set_option maxRecDepth 100000 in
theorem impl_armorOf.calls (k : Nat) (a0 : ByteArray) (a1 : ByteArray) (r : ByteArray) (w : World) (h : impl_armorOf.f k a0 a1 = some r) :
    Calls Try.prog 14 #[.string a0, .string a1] w fun e w' => e = .returned (.string r) ∧ Below w.heap.size w w' := by
  have HB := Aside0.mk (Below.refl w.heap.size w)
  have H : (if 11 + a0.size ≤ 9223372036854775807 then (if ((⟨#[45, 45, 45, 45, 45, 66, 69, 71, 73, 78, 32]⟩ : ByteArray) ++ a0).size + 6 ≤ 9223372036854775807 then ((impl_signsOf.f a1).bind fun t124 => ((impl_linesOf.f k t124 64).bind fun t125 => (impl_armorOf.l0 k a0 (((⟨#[45, 45, 45, 45, 45, 66, 69, 71, 73, 78, 32]⟩ : ByteArray) ++ a0) ++ (⟨#[45, 45, 45, 45, 45, 10]⟩ : ByteArray)) t125 (t125.length : Int) 0))) else (none)) else (none)) = some r := h
  clear h
  by_cases c3 : 11 + a0.size ≤ 9223372036854775807
  · rw [if_pos c3] at H
    have c3b0 := eq_true c3
    have c3b1 : decide (11 + a0.size ≤ 9223372036854775807) = true := decide_eq_true c3
    try have c3b2 : (9223372036854775807 < 11 + a0.size) = False := eq_false (Nat.not_lt.2 c3)
    by_cases c4 : ((⟨#[45, 45, 45, 45, 45, 66, 69, 71, 73, 78, 32]⟩ : ByteArray) ++ a0).size + 6 ≤ 9223372036854775807
    · rw [if_pos c4] at H
      have c4b0 := eq_true c4
      have c4b1 : decide (((⟨#[45, 45, 45, 45, 45, 66, 69, 71, 73, 78, 32]⟩ : ByteArray) ++ a0).size + 6 ≤ 9223372036854775807) = true := decide_eq_true c4
      try have c4b2 : (9223372036854775807 < ((⟨#[45, 45, 45, 45, 45, 66, 69, 71, 73, 78, 32]⟩ : ByteArray) ++ a0).size + 6) = False := eq_false (Nat.not_lt.2 c4)
      try have c4b3 : (9223372036854775807 < 11 + a0.size + 6) = False := by have h_ := c4b2; simp only [ByteArray.size_append] at h_; exact h_
      replace H := Option.bind_eq_some_iff.mp H
      obtain ⟨t124, A50, H⟩ := H
      replace H : ((impl_linesOf.f k t124 64).bind fun t125 => (impl_armorOf.l0 k a0 (((⟨#[45, 45, 45, 45, 45, 66, 69, 71, 73, 78, 32]⟩ : ByteArray) ++ a0) ++ (⟨#[45, 45, 45, 45, 45, 10]⟩ : ByteArray)) t125 (t125.length : Int) 0)) = some r := H
      have A5 := Aside0.mk A50
      clear A50
      replace H := Option.bind_eq_some_iff.mp H
      obtain ⟨t125, A60, H⟩ := H
      replace H : (impl_armorOf.l0 k a0 (((⟨#[45, 45, 45, 45, 45, 66, 69, 71, 73, 78, 32]⟩ : ByteArray) ++ a0) ++ (⟨#[45, 45, 45, 45, 45, 10]⟩ : ByteArray)) t125 (t125.length : Int) 0) = some r := H
      have A6 := Aside0.mk A60
      clear A60
      have H' := Aside0.mk H
      clear H
      go_enter Try.func14, Try.ntmps14
      go_wp2_with (first | ((with_reducible refine gate_callee (f := 10) rfl ?_); refine goesL_ (some 12) rfl rfl Try.func10 (by kernel_rfl) rfl #[.string a1] rfl (by (try simp only [List.map_toArray, List.map_cons, List.map_nil]); first | done | rfl | (simp only [List.length_drop, List.length_take]; rfl)) ?_; (with_reducible refine (impl_signsOf.calls a1 t124 _ A5.out).mono ?_); rintro e w7 ⟨rfl, hb⟩; refine ⟨_, rfl, ?_⟩; have n0_ := Aside0.mk (below_step (by repeat (first | (with_reducible first | exact HB.out | apply below_alloc | apply pw_below_drewN | apply below_drew1) | exact HB.out)) hb); clear HB; have HB := n0_; clear n0_; (try clear hb); (try clear hb2); (try clear hk); (try clear hi)) | ((with_reducible refine gate_callee (f := 21) rfl ?_); refine goesL_ (some 13) rfl rfl Try.func21 (by kernel_rfl) rfl #[.string t124, .int .i64 64] rfl (by (try simp only [List.map_toArray, List.map_cons, List.map_nil]); first | done | rfl | (simp only [List.length_drop, List.length_take]; rfl)) ?_; (with_reducible refine (impl_linesOf.calls k t124 64 t125 _ A6.out).mono ?_); rintro e w8 ⟨v126, rfl, ho0, hb⟩; refine ⟨_, rfl, ?_⟩; have n0_ := Aside0.mk (Kd.R_lower ho0 (below_size (by repeat (first | (with_reducible first | exact HB.out | apply below_alloc | apply pw_below_drewN | apply below_drew1) | exact HB.out)))); have n1_ := Aside0.mk (below_step (by repeat (first | (with_reducible first | exact HB.out | apply below_alloc | apply pw_below_drewN | apply below_drew1) | exact HB.out)) hb); clear HB; have HO127 := n0_; have HB := n1_; clear n0_ n1_; (try clear hb); (try clear hb2); (try clear hk); (try clear hi); (try clear ho0); obtain ⟨Ao9, co9, eo9⟩ := Kd.R_slice HO127.out; subst eo9))
      go_loopg [5, 15] k (fun kq v5 v15 w' => ∃ (x5_1 : ByteArray) (x15_1 : Int), v5 = .string x5_1 ∧ v15 = .int .i64 x15_1 ∧ Aside0 (impl_armorOf.l0 kq a0 x5_1 t125 (t125.length : Int) x15_1 = some r) ∧ Aside0 (kq ≤ k) ∧ Aside0 (Kd.R Kd.string 9 w' w.heap.size (fun _ => True) (.slice Ao9 t125.length co9) t125) ∧ Aside0 (Below w.heap.size w w'))
      case atStart => exact ⟨(((⟨#[45, 45, 45, 45, 45, 66, 69, 71, 73, 78, 32]⟩ : ByteArray) ++ a0) ++ (⟨#[45, 45, 45, 45, 45, 10]⟩ : ByteArray)), (0), (by first | rfl | (simp; done) | (simp [*]; done)), (by first | rfl | (simp; done) | (simp [*]; done)), H', ⟨Nat.le_refl _⟩, ⟨by (with_reducible repeat (first | apply Kd.R_alloc | apply Kd.R_drewN | apply Kd.R_drew)); exact HO127.out⟩, ⟨by repeat (first | (with_reducible first | exact HB.out | apply below_alloc | apply pw_below_drewN | apply below_drew1) | exact HB.out)⟩⟩
      case round =>
        clear H'
        try clear c1
        try clear c2
        try clear p2
        try clear c3
        try clear c3b0
        try clear c3b1
        try clear c3b2
        try clear c4
        try clear c4b0
        try clear c4b1
        try clear c4b2
        obtain ⟨x5_1, x15_1, rfl, rfl, HA, HK1, HO_13, HB⟩ := hrel
        cases gk with
        | zero => exact absurd HA.out (by simp [impl_armorOf.l0])
        | succ k1 =>
          have H := HA.out
          clear HA
          simp only [impl_armorOf.l0] at H
          by_cases c10 : x15_1 < (t125.length : Int)
          · rw [if_pos c10] at H
            have c10b0 : decide (x15_1 < (t125.length : Int)) = true := decide_eq_true c10
            clear c10
            by_cases c11 : 0 ≤ x15_1
            · rw [if_pos c11] at H
              have c11b0 : decide (0 ≤ x15_1) = true := decide_eq_true c11
              clear c11
              by_cases c12 : x15_1 < (t125.length : Int)
              · rw [if_pos c12] at H
                have c12b0 : decide (x15_1 < (t125.length : Int)) = true := decide_eq_true c12
                clear c12
                by_cases c13 : (rdOf ByteArray.empty t125 x15_1).size + 1 ≤ 9223372036854775807
                · rw [if_pos c13] at H
                  have c13b0 := eq_true c13
                  have c13b1 : decide ((rdOf ByteArray.empty t125 x15_1).size + 1 ≤ 9223372036854775807) = true := decide_eq_true c13
                  try have c13b2 : (9223372036854775807 < (rdOf ByteArray.empty t125 x15_1).size + 1) = False := eq_false (Nat.not_lt.2 c13)
                  by_cases c14 : x5_1.size + ((rdOf ByteArray.empty t125 x15_1) ++ (⟨#[10]⟩ : ByteArray)).size ≤ 9223372036854775807
                  · rw [if_pos c14] at H
                    have c14b0 := eq_true c14
                    have c14b1 : decide (x5_1.size + ((rdOf ByteArray.empty t125 x15_1) ++ (⟨#[10]⟩ : ByteArray)).size ≤ 9223372036854775807) = true := decide_eq_true c14
                    try have c14b2 : (9223372036854775807 < x5_1.size + ((rdOf ByteArray.empty t125 x15_1) ++ (⟨#[10]⟩ : ByteArray)).size) = False := eq_false (Nat.not_lt.2 c14)
                    try have c14b3 : (9223372036854775807 < x5_1.size + ((rdOf ByteArray.empty t125 x15_1).size + 1)) = False := by have h_ := c14b2; simp only [ByteArray.size_append] at h_; exact h_
                    have H' := Aside0.mk H
                    clear H
                    have p128 : 0 ≤ (x15_1 : Int) := of_decide_eq_true (by first | (with_reducible assumption) | assumption)
                    have q128 : x15_1 < (t125.length : Int) := of_decide_eq_true (by first | (with_reducible assumption) | assumption)
                    obtain ⟨ad128, e128, hx128_0⟩ := Kd.at_string (Kd.R_reads' HO_13.out).2.2 x15_1 p128 q128
                    cases e128
                    replace p128 := eq_true p128
                    replace q128 := eq_true q128
                    go_wp2
                    go_roundg k1
                    case measure => have := HK1.out; omega
                    case rel => exact ⟨(x5_1 ++ ((rdOf ByteArray.empty t125 x15_1) ++ (⟨#[10]⟩ : ByteArray))), (wrap64 (x15_1 + 1)), (by first | rfl | (simp; done) | (simp [*]; done)), (by first | rfl | (simp; done) | (simp [*]; done)), H', ⟨by have := HK1.out; omega⟩, ⟨by (with_reducible repeat (first | apply Kd.R_alloc | apply Kd.R_drewN | apply Kd.R_drew)); exact HO_13.out⟩, ⟨by repeat (first | (with_reducible first | exact HB.out | apply below_alloc | apply pw_below_drewN | apply below_drew1) | exact HB.out)⟩⟩
                  · rw [if_neg c14] at H
                    exact absurd H (by simp)
                · rw [if_neg c13] at H
                  exact absurd H (by simp)
              · rw [if_neg c12] at H
                exact absurd H (by simp)
            · rw [if_neg c11] at H
              exact absurd H (by simp)
          · rw [if_neg c10] at H
            have c10b0 : decide (x15_1 < (t125.length : Int)) = false := decide_eq_false c10
            clear c10
            by_cases c15 : x5_1.size + 9 ≤ 9223372036854775807
            · rw [if_pos c15] at H
              have c15b0 := eq_true c15
              have c15b1 : decide (x5_1.size + 9 ≤ 9223372036854775807) = true := decide_eq_true c15
              try have c15b2 : (9223372036854775807 < x5_1.size + 9) = False := eq_false (Nat.not_lt.2 c15)
              by_cases c16 : (x5_1 ++ (⟨#[45, 45, 45, 45, 45, 69, 78, 68, 32]⟩ : ByteArray)).size + a0.size ≤ 9223372036854775807
              · rw [if_pos c16] at H
                have c16b0 := eq_true c16
                have c16b1 : decide ((x5_1 ++ (⟨#[45, 45, 45, 45, 45, 69, 78, 68, 32]⟩ : ByteArray)).size + a0.size ≤ 9223372036854775807) = true := decide_eq_true c16
                try have c16b2 : (9223372036854775807 < (x5_1 ++ (⟨#[45, 45, 45, 45, 45, 69, 78, 68, 32]⟩ : ByteArray)).size + a0.size) = False := eq_false (Nat.not_lt.2 c16)
                try have c16b3 : (9223372036854775807 < x5_1.size + 9 + a0.size) = False := by have h_ := c16b2; simp only [ByteArray.size_append] at h_; exact h_
                by_cases c17 : ((x5_1 ++ (⟨#[45, 45, 45, 45, 45, 69, 78, 68, 32]⟩ : ByteArray)) ++ a0).size + 6 ≤ 9223372036854775807
                · rw [if_pos c17] at H
                  have c17b0 := eq_true c17
                  have c17b1 : decide (((x5_1 ++ (⟨#[45, 45, 45, 45, 45, 69, 78, 68, 32]⟩ : ByteArray)) ++ a0).size + 6 ≤ 9223372036854775807) = true := decide_eq_true c17
                  try have c17b2 : (9223372036854775807 < ((x5_1 ++ (⟨#[45, 45, 45, 45, 45, 69, 78, 68, 32]⟩ : ByteArray)) ++ a0).size + 6) = False := eq_false (Nat.not_lt.2 c17)
                  try have c17b3 : (9223372036854775807 < x5_1.size + 9 + a0.size + 6) = False := by have h_ := c17b2; simp only [ByteArray.size_append] at h_; exact h_
                  obtain rfl := Option.some.inj H
                  go_wp2
                  go_ret
                  exact ⟨by first | rfl | (simp [errW_none, errW_some] <;> rfl) | (simp [*, errW_none, errW_some] <;> rfl), by repeat (first | (with_reducible first | exact HB.out | apply below_alloc | apply pw_below_drewN | apply below_drew1) | exact HB.out)⟩
                · rw [if_neg c17] at H
                  exact absurd H (by simp)
              · rw [if_neg c16] at H
                exact absurd H (by simp)
            · rw [if_neg c15] at H
              exact absurd H (by simp)
    · rw [if_neg c4] at H
      exact absurd H (by simp)
  · rw [if_neg c3] at H
    exact absurd H (by simp)

/-! ### impl_ArmorOf: function 8 -/
def impl_ArmorOf.f (k : Nat) (a0 : ByteArray) (a1 : ByteArray) : Option (ByteArray × Bool) := (impl_isArmorName.f k a0).bind fun t129 => (if t129 = true then (if (a1.size : Int) > 600 then (some ((⟨#[]⟩ : ByteArray), false)) else ((impl_armorOf.f k a0 a1).bind fun t130 => (some (t130, true)))) else (some ((⟨#[]⟩ : ByteArray), false)))
theorem impl_ArmorOf.mono : ∀ a0 a1 k, LeO (impl_ArmorOf.f k a0 a1) (impl_ArmorOf.f (k + 1) a0 a1) := by
  intro a0 a1 k
  unfold impl_ArmorOf.f
  repeat' first
      | (with_reducible exact impl_armorOf.mono _ _ _)
      | (with_reducible exact impl_isArmorName.mono _ _)
      | (with_reducible exact LeO.refl _)
      | (with_reducible exact LeO.none _)
      | (with_reducible refine LeO.ite ?_ ?_)
      | (with_reducible refine LeO.bind ?_ (fun _ => ?_))
      | exact impl_armorOf.mono _ _ _
      | exact impl_isArmorName.mono _ _
      | exact LeO.none _
      | refine LeO.ite ?_ ?_
      | refine LeO.bind ?_ (fun _ => ?_)
set_option maxHeartbeats 8000000 in
set_option maxRecDepth 100000 in
theorem impl_ArmorOf.calls (k : Nat) (a0 : ByteArray) (a1 : ByteArray) (r1 : ByteArray) (r2 : Bool) (w : World) (h : impl_ArmorOf.f k a0 a1 = some (r1, r2)) :
    Calls Try.prog 8 #[.string a0, .string a1] w fun e w' => e = .returned (.tuple #[.string r1, .bool r2]) ∧ Below w.heap.size w w' := by
  have HB := Aside0.mk (Below.refl w.heap.size w)
  have H : ((impl_isArmorName.f k a0).bind fun t129 => (if t129 = true then (if (a1.size : Int) > 600 then (some ((⟨#[]⟩ : ByteArray), false)) else ((impl_armorOf.f k a0 a1).bind fun t130 => (some (t130, true)))) else (some ((⟨#[]⟩ : ByteArray), false)))) = some (r1, r2) := h
  clear h
  replace H := Option.bind_eq_some_iff.mp H
  obtain ⟨t129, A30, H⟩ := H
  replace H : (if t129 = true then (if (a1.size : Int) > 600 then (some ((⟨#[]⟩ : ByteArray), false)) else ((impl_armorOf.f k a0 a1).bind fun t130 => (some (t130, true)))) else (some ((⟨#[]⟩ : ByteArray), false))) = some (r1, r2) := H
  have A3 := Aside0.mk A30
  clear A30
  by_cases c4 : t129 = true
  · subst c4
    have H1 : (if (a1.size : Int) > 600 then (some ((⟨#[]⟩ : ByteArray), false)) else ((impl_armorOf.f k a0 a1).bind fun t130 => (some (t130, true)))) = some (r1, r2) := by rw [if_pos rfl] at H; exact H
    clear H
    have H := H1
    clear H1
    by_cases c5 : (a1.size : Int) > 600
    · rw [if_pos c5] at H
      have c5b0 : decide (600 < (a1.size : Int)) = true := decide_eq_true c5
      have c5b1 : decide (600 < a1.size) = true := decide_eq_true (by omega)
      clear c5
      simp only [Option.some.injEq, Prod.mk.injEq] at H
      obtain ⟨rfl, rfl⟩ := H
      go_enter Try.func8, Try.ntmps8
      go_wp2_with (first | ((with_reducible refine gate_callee (f := 13) rfl ?_); refine goesL_ (some 7) rfl rfl Try.func13 (by kernel_rfl) rfl #[.string a0] rfl (by (try simp only [List.map_toArray, List.map_cons, List.map_nil]); first | done | rfl | (simp only [List.length_drop, List.length_take]; rfl)) ?_; (with_reducible refine (impl_isArmorName.calls k a0 true _ A3.out).mono ?_); rintro e w' ⟨rfl, ⟨nd, rfl⟩⟩; refine ⟨_, rfl, ?_⟩))
      go_ret2
      exact ⟨by first | rfl | (simp [errW_none, errW_some] <;> rfl) | (simp [*, errW_none, errW_some] <;> rfl), by repeat (first | (with_reducible first | exact HB.out | apply below_alloc | apply pw_below_drewN | apply below_drew1) | exact HB.out)⟩
    · rw [if_neg c5] at H
      have c5b0 : decide (600 < (a1.size : Int)) = false := decide_eq_false c5
      have c5b1 : decide (600 < a1.size) = false := decide_eq_false (by omega)
      clear c5
      replace H := Option.bind_eq_some_iff.mp H
      obtain ⟨t130, A60, H⟩ := H
      replace H : (some (t130, true)) = some (r1, r2) := H
      have A6 := Aside0.mk A60
      clear A60
      simp only [Option.some.injEq, Prod.mk.injEq] at H
      obtain ⟨rfl, rfl⟩ := H
      go_enter Try.func8, Try.ntmps8
      go_wp2_with (first | ((with_reducible refine gate_callee (f := 13) rfl ?_); refine goesL_ (some 7) rfl rfl Try.func13 (by kernel_rfl) rfl #[.string a0] rfl (by (try simp only [List.map_toArray, List.map_cons, List.map_nil]); first | done | rfl | (simp only [List.length_drop, List.length_take]; rfl)) ?_; (with_reducible refine (impl_isArmorName.calls k a0 true _ A3.out).mono ?_); rintro e w' ⟨rfl, ⟨nd, rfl⟩⟩; refine ⟨_, rfl, ?_⟩) | ((with_reducible refine gate_callee (f := 14) rfl ?_); refine goesL_ (some 16) rfl rfl Try.func14 (by kernel_rfl) rfl #[.string a0, .string a1] rfl (by (try simp only [List.map_toArray, List.map_cons, List.map_nil]); first | done | rfl | (simp only [List.length_drop, List.length_take]; rfl)) ?_; (with_reducible refine (impl_armorOf.calls k a0 a1 t130 _ A6.out).mono ?_); rintro e w7 ⟨rfl, hb⟩; refine ⟨_, rfl, ?_⟩; have n0_ := Aside0.mk (below_step (by repeat (first | (with_reducible first | exact HB.out | apply below_alloc | apply pw_below_drewN | apply below_drew1) | exact HB.out)) hb); clear HB; have HB := n0_; clear n0_; (try clear hb); (try clear hb2); (try clear hk); (try clear hi)))
      go_ret2
      exact ⟨by first | rfl | (simp [errW_none, errW_some] <;> rfl) | (simp [*, errW_none, errW_some] <;> rfl), by repeat (first | (with_reducible first | exact HB.out | apply below_alloc | apply pw_below_drewN | apply below_drew1) | exact HB.out)⟩
  · replace c4 := Bool.eq_false_iff.mpr c4
    subst c4
    have H1 : (some ((⟨#[]⟩ : ByteArray), false)) = some (r1, r2) := by rw [if_neg (show ¬ (false = true) by decide)] at H; exact H
    clear H
    have H := H1
    clear H1
    simp only [Option.some.injEq, Prod.mk.injEq] at H
    obtain ⟨rfl, rfl⟩ := H
    go_enter Try.func8, Try.ntmps8
    go_wp2_with (first | ((with_reducible refine gate_callee (f := 13) rfl ?_); refine goesL_ (some 7) rfl rfl Try.func13 (by kernel_rfl) rfl #[.string a0] rfl (by (try simp only [List.map_toArray, List.map_cons, List.map_nil]); first | done | rfl | (simp only [List.length_drop, List.length_take]; rfl)) ?_; (with_reducible refine (impl_isArmorName.calls k a0 false _ A3.out).mono ?_); rintro e w' ⟨rfl, ⟨nd, rfl⟩⟩; refine ⟨_, rfl, ?_⟩))
    go_ret2
    exact ⟨by first | rfl | (simp [errW_none, errW_some] <;> rfl) | (simp [*, errW_none, errW_some] <;> rfl), by repeat (first | (with_reducible first | exact HB.out | apply below_alloc | apply pw_below_drewN | apply below_drew1) | exact HB.out)⟩

end Go.Proofs.Ytmajmplhojlhbaa.SFnExactArmorOf
