-- Written by sprint.py, a program of this session's, over the kit's print. Not trusted: Lean checks it.
import Derived.Test.YtmajmplhojlhbaaDoorSFnExactOfSignsx0
import Derived.Test.YtmajmplhojlhbaaDoorSFnExactOfSignsx1
namespace Go.Proofs.YtmajmplhojlhbaaDoor.SFnExactOfSigns
open Go.RowKit Go.Proofs.YtmajmplhojlhbaaDoorW.PrintWords Go.Proofs.YtmajmplhojlhbaaDoorW.PrintLast Go.Proofs.YtmajmplhojlhbaaDoorW.PrintMore
attribute [local go_sem] max2_int min2_int max_two min_two max_three min_three max_four min_four   -- for this text's walks alone
set_option linter.unusedVariables false
set_option linter.unusedSimpArgs false

/-! ### impl_signsOf: function 27 -/
/-- the alphabet's letter -/
def sgT (j : Nat) : UInt8 := UInt8.ofNat (if j < 26 then 65 + j else if j < 52 then 71 + j else if j < 62 then j - 4 else if j = 62 then 43 else 47)
/-- the first i bytes of a group of three, as a number: a byte that is not there counts 0 -/
def sgN (g : List UInt8) : Nat → Nat
  | 0 => 0
  | i + 1 => sgN g i * 256 + (if i < g.length then (g.getD i 0).toNat else 0)
/-- the i-th sign of a group -/
def sgC (g : List UInt8) (i : Nat) : UInt8 := if g.length < i then 61 else sgT (sgN g 3 / 2 ^ (18 - 6 * i) % 64)
def sgG (g : List UInt8) : List UInt8 := [sgC g 0, sgC g 1, sgC g 2, sgC g 3]
def sgL : Nat → List UInt8 → List UInt8
  | 0, _ => []
  | k + 1, l => if l = [] then [] else sgG (l.take 3) ++ sgL k (l.drop 3)
/-- the base64 encoding of bytes -/
def sgE (l : List UInt8) : List UInt8 := sgL l.length l
def impl_signsOf.f (a0 : ByteArray) : Option (ByteArray) := if a0.size ≤ 1000000 then some (⟨(sgE a0.data.toList).toArray⟩ : ByteArray) else none

theorem sgN_lt (g : List UInt8) : ∀ i, sgN g i < 256 ^ i
  | 0 => by simp [sgN]
  | i + 1 => by
    have h := sgN_lt g i
    have hb := (g.getD i 0).toNat_lt
    have e : 256 ^ (i + 1) = 256 ^ i * 256 := Nat.pow_succ 256 i
    rw [sgN, e]
    split <;> omega
theorem sgL_more : ∀ k l, l.length ≤ k → sgL k l = sgL l.length l := by
  intro k
  induction k using Nat.strongRecOn with
  | _ k ih =>
    intro l hl
    match k, l with
    | 0, [] => rfl
    | 0, a :: t => simp at hl
    | k + 1, [] => simp [sgL]
    | k + 1, a :: t =>
      simp only [List.length_cons] at hl ⊢
      rw [sgL, sgL, if_neg (by simp), if_neg (by simp)]
      congr 1
      have h1 : ((a :: t).drop 3).length ≤ t.length := by simp
      rw [ih k (by omega) _ (by omega), ih t.length (by omega) _ h1]
theorem sgE_step (l : List UInt8) (h : l ≠ []) : sgE l = sgG (l.take 3) ++ sgE (l.drop 3) := by
  unfold sgE
  match l, h with
  | a :: t, _ =>
    rw [List.length_cons, sgL, if_neg (by simp)]
    congr 1
    exact sgL_more _ _ (by simp)
theorem sgE_length (l : List UInt8) : (sgE l).length ≤ 4 * l.length := by
  unfold sgE
  have h : ∀ k (l : List UInt8), (sgL k l).length ≤ 4 * k := by
    intro k
    induction k with
    | zero => intro l; simp [sgL]
    | succ k ih =>
      intro l
      rw [sgL]
      split
      · simp
      · simp [sgG]
        have := ih (l.drop 3)
        omega
  exact h _ _
theorem sg_letter : ∀ j : Fin 64, bt (⟨#[65, 66, 67, 68, 69, 70, 71, 72, 73, 74, 75, 76, 77, 78, 79, 80, 81, 82, 83, 84, 85, 86, 87, 88, 89, 90, 97, 98, 99, 100, 101, 102, 103, 104, 105, 106, 107, 108, 109, 110, 111, 112, 113, 114, 115, 116, 117, 118, 119, 120, 121, 122, 48, 49, 50, 51, 52, 53, 54, 55, 56, 57, 43, 47]⟩ : ByteArray) (j.val : Int) = ((sgT j.val).toNat : Int) := by decide +kernel
theorem sg_letter_at (x : Int) (h0 : 0 ≤ x) (h1 : x < 64) : bt (⟨#[65, 66, 67, 68, 69, 70, 71, 72, 73, 74, 75, 76, 77, 78, 79, 80, 81, 82, 83, 84, 85, 86, 87, 88, 89, 90, 97, 98, 99, 100, 101, 102, 103, 104, 105, 106, 107, 108, 109, 110, 111, 112, 113, 114, 115, 116, 117, 118, 119, 120, 121, 122, 48, 49, 50, 51, 52, 53, 54, 55, 56, 57, 43, 47]⟩ : ByteArray) x = ((sgT x.toNat).toNat : Int) := by
  have h := sg_letter ⟨x.toNat, by omega⟩
  have e : ((x.toNat : Nat) : Int) = x := by omega
  simpa only [e] using h
theorem sg_write_byte (B b : Nat) (bs : List Value) (c : Int) (w : World) (h : Lib.IsBuilder 55 5 B b bs w) (hlen : bs.length + 1 ≤ 140737488355328) (hBw : B ≤ w.heap.size) :
    Calls Tryd.prog 43 #[.pointer (some ⟨b, 0, none⟩), .int .u8 c] w fun e w' => e = .returned .nilIface ∧ (Lib.BuilderAt 55 5 B b (.pointer (some ⟨b, 0, none⟩)) (bs ++ [.int .u8 c]) w' ∧ Below B w w') :=
  Any.Builder_WriteByte lays167 builder167 B b bs c w h hlen hBw
theorem sg_builder_string (B b : Nat) (l : List UInt8) (w : World) (h : Lib.IsBuilder 55 5 B b (Lib.byteCells l) w) (hBw : B ≤ w.heap.size) :
    Calls Tryd.prog 44 #[.pointer (some ⟨b, 0, none⟩)] w fun e w' => e = .returned (.string ⟨l.toArray⟩) ∧ Below B w w' :=
  Any.Builder_String_any lays169 builder169 B b l w h hBw
theorem sg_wraps (n : Int) (h0 : 0 ≤ n) (h1 : n < 2 ^ 40) : IntKind.i64.wrap n = n := by
  rw [IntKind.wrap_i64]
  have : (2 : Int) ^ 40 = 1099511627776 := by decide
  omega
theorem sg_or (n b : Int) (h0 : 0 ≤ n) (h1 : n < 4294967296) (hb0 : 0 ≤ b) (hb1 : b < 256) : Go.bits .or .i64 (n * 256) b = n * 256 + b := by
  have l40 : (2 : Int) ^ 40 = 1099511627776 := by decide
  exact bits_join .i64 40 (by decide) sg_wraps 8 (n * 256) b (by omega) (by omega) (by omega) hb0 (by omega) (by omega)
theorem sg_and (x : Int) (h0 : 0 ≤ x) (h1 : x < 1000000000) : Go.bits .and .i64 x 63 = x % 64 := by
  have l40 : (2 : Int) ^ 40 = 1099511627776 := by decide
  exact bits_mask .i64 40 (by decide) sg_wraps 6 (by decide) x h0 (by omega)
theorem sg_bt (g : ByteArray) (i : Nat) (h : i < g.size) : bt g (i : Int) = ((g.data.toList.getD i 0).toNat : Int) := by
  have hl : i < g.data.toList.length := by rw [← Lib.size_eq]; exact h
  unfold bt
  simp only [Int.toNat_natCast]
  rw [dif_pos h, List.getD_eq_getElem?_getD, List.getElem?_eq_getElem hl]
  simp
  rfl
theorem sg_take (g : List UInt8) (j : Nat) (h : j < 4) : (sgG g).take (j + 1) = (sgG g).take j ++ [sgC g j] := by
  match j, h with
  | 0, _ => rfl
  | 1, _ => rfl
  | 2, _ => rfl
  | 3, _ => rfl
set_option maxHeartbeats 2000000 in
theorem impl_signsOf.calls (a0 : ByteArray) (r : ByteArray) (w : World) (h : impl_signsOf.f a0 = some r) :
    Calls Tryd.prog 27 #[.string a0] w fun e w' => e = .returned (.string r) ∧ Below w.heap.size w w' := by
  have hsz : a0.size ≤ 1000000 := by
    unfold impl_signsOf.f at h
    split at h
    · assumption
    · cases h
  have hr : r = (⟨(sgE a0.data.toList).toArray⟩ : ByteArray) := by
    unfold impl_signsOf.f at h
    rw [if_pos hsz] at h
    exact (Option.some.inj h).symm
  clear h
  have Hr := Aside0.mk hr
  clear hr
  have h0 := Aside0.mk (Lib.fresh_isBuilder 55 5 w)
  have b0 := Aside0.mk ((Below.refl _ w).alloc (Nat.le_refl _) (.cells #[.pointer none, .slice none 0 0] 55))
  go_enter Tryd.func27, Tryd.ntmps27
  go_wp2
  go_loopg [0] (a0.size) (fun kq v0 w' => ∃ (x : ByteArray) (acc : List UInt8), v0 = .string x ∧ Aside0 (x.size = kq) ∧ Aside0 (acc ++ sgE x.data.toList = sgE a0.data.toList) ∧ Aside0 (acc.length + 4 * x.size ≤ 4000000) ∧ Aside0 (Lib.IsBuilder 55 5 w.heap.size w.heap.size (Lib.byteCells acc) w') ∧ Aside0 (Below w.heap.size w w'))
  case atStart =>
    exact ⟨a0, [], rfl, ⟨rfl⟩, ⟨rfl⟩, ⟨by simp; omega⟩, ⟨by simpa [Lib.byteCells] using h0.out⟩, b0⟩
  case round =>
    clear h0 b0
    obtain ⟨x, acc, rfl, hkq, hacc, hlen, hI, hB⟩ := hrel
    by_cases hne : x.toList = []
    · have c1 : (x.toList == ([] : List UInt8)) = true := beq_iff_eq.mpr hne
      have c2 : (x.toList != ([] : List UInt8)) = false := bne_eq_false_iff_eq.mpr hne
      go_wp2_with fail
      refine (sg_builder_string w.heap.size w.heap.size _ _ hI.out hB.out.size).mono ?_
      rintro e w1 ⟨rfl, b1⟩
      have B1 := Aside0.mk (hB.out.trans b1)
      clear b1
      go_wp2
      go_ret
      refine ⟨?_, B1.out⟩
      have he := hacc.out
      rw [Lib.toList_data] at hne
      rw [hne] at he
      have he2 : acc = sgE a0.data.toList := by simpa [sgE, sgL] using he
      rw [Hr.out, ← he2]
      rfl
    · have c1 : (x.toList == ([] : List UInt8)) = false := beq_eq_false_iff_ne.mpr hne
      have c2 : (x.toList != ([] : List UInt8)) = true := bne_iff_ne.mpr hne
      have hpos : 0 < x.size := by
        rw [Lib.size_eq]
        rw [Lib.toList_data] at hne
        exact List.length_pos_iff.mpr hne
      obtain ⟨m, hm⟩ : ∃ m : Nat, (if (x.size : Int) < 3 then (x.size : Int) else 3) = (m : Int) := ⟨min 3 x.size, by split <;> omega⟩
      have hm1 : m ≤ x.size ∧ m ≤ 3 ∧ 1 ≤ m ∧ (m = 3 ∨ m = x.size) := by split at hm <;> omega
      have Hm := Aside0.mk hm1
      have hmx : m ≤ x.size := hm1.1
      clear hm1
      have p1 := eq_true (show (0 : Int) ≤ (m : Int) by omega)
      have p2 := eq_true (show (m : Int) ≤ (x.size : Int) by omega)
      obtain ⟨g, hg⟩ : ∃ g, x.extract 0 m = g := ⟨_, rfl⟩
      have hgs : g.size = m := by rw [← hg, ByteArray.size_extract]; omega
      have Hg := Aside0.mk hg
      have Hgs := Aside0.mk hgs
      have HM := Aside0.mk hm
      go_wp2_with fail
      obtain ⟨wo, hwo⟩ : ∃ wo : World, wo = wr := ⟨_, rfl⟩
      rw [← hwo] at hI hB ⊢
      clear hwo hg hm p1 p2
      obtain ⟨gq, hgq⟩ : ∃ q : Nat, q = gk := ⟨_, rfl⟩
      go_loopg [5, 20] 3 (fun kq v5 v20 w' => ∃ (i : Nat) (n : Int), v20 = .int .i64 (i : Int) ∧ v5 = .int .i64 n ∧ Aside0 (n = (sgN g.data.toList i : Int)) ∧ Aside0 (i + kq = 3) ∧ w' = wo)
      case atStart =>
        exact ⟨0, 0, rfl, rfl, ⟨rfl⟩, ⟨rfl⟩, rfl⟩
      case round =>
        obtain ⟨i, n, rfl, rfl, hn, hik, rfl⟩ := hrel
        have hgl : g.data.toList.length = m := by rw [← Lib.size_eq]; exact Hgs.out
        have hnb := sgN_lt g.data.toList i
        by_cases h3 : i < 3
        · have d1 : decide ((i : Int) < 3) = true := decide_eq_true (by omega)
          have n0 : 0 ≤ n := by have := hn.out; omega
          have n1 : n < 65536 := by
            have := hn.out
            have e : 256 ^ i ≤ 256 ^ 2 := Nat.pow_le_pow_right (by omega) (by omega)
            have e2 : 256 ^ 2 = 65536 := by decide
            omega
          clear hnb
          have HL := Aside0.mk hgl
          clear hgl
          by_cases him : i < m
          · have d2 : decide ((i : Int) < (m : Int)) = true := decide_eq_true (by omega)
            have hb0 := (bt_range g (i : Int)).1
            have hb1 := (bt_range g (i : Int)).2
            have hx4 : ∀ h : i < m, ((g[i]'(by rw [Hgs.out]; exact h)).toNat : Int) = bt g (i : Int) := fun h => by unfold bt; simp only [Int.toNat_natCast]; rw [dif_pos (by rw [Hgs.out]; exact h)]
            go_wp2_with fail
            go_roundg (gk - 1)
            case measure => have := hik.out; omega
            case rel =>
              refine ⟨i + 1, _, by simp, rfl, ⟨?_⟩, ⟨by have := hik.out; omega⟩, rfl⟩
              rw [sg_or n _ n0 (by omega) hb0 (by omega), hn.out, sgN, if_pos (by have := HL.out; omega), sg_bt g i (by have := Hgs.out; omega)]
              simp
          · have d2 : decide ((i : Int) < (m : Int)) = false := decide_eq_false (by omega)
            go_wp2_with fail
            go_roundg (gk - 1)
            case measure => have := hik.out; omega
            case rel =>
              refine ⟨i + 1, _, by simp, rfl, ⟨?_⟩, ⟨by have := hik.out; omega⟩, rfl⟩
              rw [hn.out, sgN, if_neg (by have := HL.out; omega)]
              simp
        · have hi3 : i = 3 := by have := hik.out; omega
          have d1 : decide ((i : Int) < 3) = false := decide_eq_false (by omega)
          have n0 : 0 ≤ n := by have := hn.out; omega
          have n1 : n < 16777216 := by
            have := hn.out
            rw [hi3] at hnb
            rw [hi3] at this
            have e2 : 256 ^ 3 = 16777216 := by decide
            omega
          have HN := Aside0.mk (show n = (sgN g.data.toList 3 : Int) by rw [hn.out, hi3])
          have HL := Aside0.mk hgl
          clear hgl hnb hn hi3
          go_wp2_with fail
          obtain ⟨wp, hwp⟩ : ∃ wp : World, wp = wr := ⟨_, rfl⟩
          rw [← hwp] at hI hB ⊢
          clear hwp hik
          go_loopg [36] 4 (fun kq v36 w' => ∃ (j : Nat), v36 = .int .i64 (j : Int) ∧ Aside0 (j + kq = 4) ∧ Aside0 (Lib.IsBuilder 55 5 w.heap.size w.heap.size (Lib.byteCells (acc ++ (sgG g.data.toList).take j)) w') ∧ Aside0 (Below w.heap.size w w'))
          case atStart => exact ⟨0, rfl, ⟨rfl⟩, ⟨by simpa using hI.out⟩, hB⟩
          case round =>
            clear hI hB
            obtain ⟨j, rfl, hjk, hI, hB⟩ := hrel
            by_cases h4 : j < 4
            · have d2 : decide ((j : Int) < 4) = true := decide_eq_true (by omega)
              have hlen2 : (Lib.byteCells (acc ++ (sgG g.data.toList).take j)).length ≤ 5000000 := by
                have := hlen.out
                simp [Lib.byteCells, sgG]
                omega
              have HL2 := Aside0.mk hlen2
              clear hlen2
              by_cases hmj : m < j
              · have d3 : decide ((m : Int) < (j : Int)) = true := decide_eq_true (by omega)
                go_wp2_with fail
                refine (sg_write_byte w.heap.size w.heap.size _ _ _ hI.out (by have := HL2.out; omega) hB.out.size).mono ?_
                rintro e w1 ⟨rfl, h1, b1⟩
                have I1 := Aside0.mk (show Lib.IsBuilder _ _ _ _ _ _ from Or.inr h1)
                have B1 := Aside0.mk (hB.out.trans b1)
                clear h1 b1
                go_wp2
                go_roundg (gk - 1)
                case measure => have := hjk.out; omega
                case rel =>
                  refine ⟨j + 1, by simp, ⟨by have := hjk.out; omega⟩, ⟨?_⟩, B1⟩
                  have hc : sgC g.data.toList j = 61 := by unfold sgC; rw [if_pos (by have := HL.out; omega)]
                  rw [sg_take g.data.toList j h4, hc, ← List.append_assoc]
                  have e : Lib.byteCells (acc ++ (sgG g.data.toList).take j ++ [61]) = Lib.byteCells (acc ++ (sgG g.data.toList).take j) ++ [.int .u8 61] := by simp [Lib.byteCells]
                  rw [e]
                  exact I1.out
              · have d3 : decide ((m : Int) < (j : Int)) = false := decide_eq_false (by omega)
                obtain ⟨q, hq⟩ : ∃ q : Int, Go.bits .and .i64 (n / 2 ^ (18 - 6 * j)) 63 = q := ⟨_, rfl⟩
                have hqv : q = ((sgN g.data.toList 3 / 2 ^ (18 - 6 * j) % 64 : Nat) : Int) := by
                  rw [← hq, HN.out]
                  have hlt : sgN g.data.toList 3 / 2 ^ (18 - 6 * j) ≤ sgN g.data.toList 3 := Nat.div_le_self _ _
                  have hcast : ((sgN g.data.toList 3 : Nat) : Int) / 2 ^ (18 - 6 * j) = ((sgN g.data.toList 3 / 2 ^ (18 - 6 * j) : Nat) : Int) := by simp
                  have hN := HN.out
                  obtain ⟨z, hz⟩ : ∃ z : Nat, sgN g.data.toList 3 / 2 ^ (18 - 6 * j) = z := ⟨_, rfl⟩
                  rw [hz] at hlt hcast ⊢
                  rw [hcast, sg_and _ (by omega) (by omega)]
                  omega
                have r1 : 0 ≤ q ∧ q < 64 := by omega
                have hx8 := (fun h => (bt_at (⟨#[65, 66, 67, 68, 69, 70, 71, 72, 73, 74, 75, 76, 77, 78, 79, 80, 81, 82, 83, 84, 85, 86, 87, 88, 89, 90, 97, 98, 99, 100, 101, 102, 103, 104, 105, 106, 107, 108, 109, 110, 111, 112, 113, 114, 115, 116, 117, 118, 119, 120, 121, 122, 48, 49, 50, 51, 52, 53, 54, 55, 56, 57, 43, 47]⟩ : ByteArray) q h).trans (sg_letter_at q r1.1 r1.2))
                have p8 := eq_true r1.1
                have q8 := eq_true r1.2
                have HQ := Aside0.mk hqv
                clear r1 hqv
                go_wp2_with fail
                refine (sg_write_byte w.heap.size w.heap.size _ _ _ hI.out (by have := HL2.out; omega) hB.out.size).mono ?_
                rintro e w1 ⟨rfl, h1, b1⟩
                have I1 := Aside0.mk (show Lib.IsBuilder _ _ _ _ _ _ from Or.inr h1)
                have B1 := Aside0.mk (hB.out.trans b1)
                clear h1 b1
                go_wp2
                go_roundg (gk - 1)
                case measure => have := hjk.out; omega
                case rel =>
                  refine ⟨j + 1, by simp, ⟨by have := hjk.out; omega⟩, ⟨?_⟩, B1⟩
                  have hqt : q.toNat = sgN g.data.toList 3 / 2 ^ (18 - 6 * j) % 64 := by have := HQ.out; omega
                  have hc : sgC g.data.toList j = sgT q.toNat := by unfold sgC; rw [if_neg (by have := HL.out; omega), hqt]
                  rw [sg_take g.data.toList j h4, hc, ← List.append_assoc]
                  have e : Lib.byteCells (acc ++ (sgG g.data.toList).take j ++ [sgT q.toNat]) = Lib.byteCells (acc ++ (sgG g.data.toList).take j) ++ [.int .u8 ((sgT q.toNat).toNat : Int)] := by simp [Lib.byteCells]
                  rw [e]
                  exact I1.out
            · have d2 : decide ((j : Int) < 4) = false := decide_eq_false (by omega)
              have hm := HM.out
              have p1 := eq_true (show (0 : Int) ≤ (m : Int) by omega)
              have p2 := eq_true (show (m : Int) ≤ (x.size : Int) by omega)
              go_wp2_with fail
              have hxs : (x.extract m x.size).size = x.size - m := by rw [ByteArray.size_extract]; omega
              have hm1 := Hm.out
              go_roundg (x.size - m)
              case measure => have := hkq.out; omega
              case rel =>
                have hxl := Lib.size_eq x
                have hlx : x.data.toList ≠ [] := by intro h0; rw [h0] at hxl; have hx0 : x.size = 0 := hxl; omega
                have hstep := sgE_step x.data.toList hlx
                have hgd : g.data.toList = x.data.toList.take 3 := by
                  rw [← Hg.out, Lib.extract_data, List.drop_zero, Nat.sub_zero]
                  rcases hm1.2.2.2 with h5 | h5
                  · rw [h5]
                  · rw [List.take_of_length_le (by omega), List.take_of_length_le (by omega)]
                have hdr : (x.extract m x.size).data.toList = x.data.toList.drop 3 := by
                  rw [Lib.extract_data, List.take_of_length_le (by rw [List.length_drop]; omega)]
                  rcases hm1.2.2.2 with h5 | h5
                  · rw [h5]
                  · rw [List.drop_eq_nil_of_le (by omega), List.drop_eq_nil_of_le (by omega)]
                refine ⟨x.extract m x.size, acc ++ sgG g.data.toList, rfl, ⟨hxs⟩, ⟨?_⟩, ⟨?_⟩, ⟨?_⟩, hB⟩
                · rw [List.append_assoc, hdr, hgd, ← hstep]
                  exact hacc.out
                · have := hlen.out
                  rw [hxs, List.length_append]
                  have e4 : (sgG g.data.toList).length = 4 := rfl
                  omega
                · have hj4 : j = 4 := by have := hjk.out; omega
                  have hI' := hI.out
                  rw [hj4] at hI'
                  exact hI'


/-! ### impl_ofSigns: function 13 -/
mutual
def impl_ofSigns.j0 : Nat → ByteArray → Bool → Option (ByteArray × Bool)
  | 0, _, _ => none
  | k + 1, x0, x19 => if x19 = true then (some ((⟨#[]⟩ : ByteArray), false)) else (impl_ofSigns.l0 k x0 ([] : List Int) 0)
def impl_ofSigns.l0 : Nat → ByteArray → List Int → Int → Option (ByteArray × Bool)
  | 0, _, _, _ => none
  | k + 1, x0, x4, x5 => if x5 < (x0.size : Int) then (if 0 ≤ x5 then (if x5 ≤ (wrap64 (x5 + 4)) then (if (wrap64 (x5 + 4)) ≤ (x0.size : Int) then ((strings_TrimRight.f (x0.extract (x5 : Int).toNat ((wrap64 (x5 + 4)) : Int).toNat) (⟨#[61]⟩ : ByteArray)).bind fun t116 => (impl_ofSigns.l1 k x0 x4 x5 t116 0 0)) else (none)) else (none)) else (none)) else ((impl_signsOf.f (strOfNums x4)).bind fun t115 => (if t115.toList = x0.toList then (if (x4.length : Int) > 600 then (some ((⟨#[]⟩ : ByteArray), false)) else (some (strOfNums x4, true))) else (some ((⟨#[]⟩ : ByteArray), false))))
def impl_ofSigns.l1 : Nat → ByteArray → List Int → Int → ByteArray → Int → Int → Option (ByteArray × Bool)
  | 0, _, _, _, _, _, _ => none
  | k + 1, x0, x4, x5, x6, x7, x32 => if x32 < 4 then (if x32 ≥ (x6.size : Int) then (impl_ofSigns.l1 k x0 x4 x5 x6 (wrap64 (x7 * 64)) (wrap64 (x32 + 1))) else (if 0 ≤ x32 then (if x32 < (x6.size : Int) then ((strings_IndexByte.f (⟨#[65, 66, 67, 68, 69, 70, 71, 72, 73, 74, 75, 76, 77, 78, 79, 80, 81, 82, 83, 84, 85, 86, 87, 88, 89, 90, 97, 98, 99, 100, 101, 102, 103, 104, 105, 106, 107, 108, 109, 110, 111, 112, 113, 114, 115, 116, 117, 118, 119, 120, 121, 122, 48, 49, 50, 51, 52, 53, 54, 55, 56, 57, 43, 47]⟩ : ByteArray) (bt x6 x32)).bind fun t117 => (if t117 < 0 then (some ((⟨#[]⟩ : ByteArray), false)) else (impl_ofSigns.l1 k x0 x4 x5 x6 (Go.bits .or .i64 (wrap64 (x7 * 64)) t117) (wrap64 (x32 + 1))))) else (none)) else (none))) else (if (x6.size : Int) < 2 then (some ((⟨#[]⟩ : ByteArray), false)) else (impl_ofSigns.l2 k x0 x4 x5 x7 (wrap64 ((x6.size : Int) - 1)) 0))
def impl_ofSigns.l2 : Nat → ByteArray → List Int → Int → Int → Int → Int → Option (ByteArray × Bool)
  | 0, _, _, _, _, _, _ => none
  | k + 1, x0, x4, x5, x7, x56, x57 => if x57 < x56 then (if 0 ≤ (wrap64 (16 - (wrap64 (8 * x57)))) then (if x4.length < 140737488355328 then (impl_ofSigns.l2 k x0 (x4 ++ [(shr .i64 x7 (wrap64 (16 - (wrap64 (8 * x57))))) % 256]) x5 x7 x56 (wrap64 (x57 + 1))) else (none)) else (none)) else (impl_ofSigns.l0 k x0 x4 (wrap64 (x5 + 4)))
end
def impl_ofSigns.f (k : Nat) (a0 : ByteArray) : Option (ByteArray × Bool) := if ((a0.size : Int) % 4) = 0 then (impl_ofSigns.j0 k a0 (decide ((a0.size : Int) > 800))) else (impl_ofSigns.j0 k a0 true)
theorem impl_ofSigns.mono_l : ∀ k, (∀ y0 y1, LeO (impl_ofSigns.j0 k y0 y1) (impl_ofSigns.j0 (k + 1) y0 y1)) ∧ (∀ y0 y1 y2, LeO (impl_ofSigns.l0 k y0 y1 y2) (impl_ofSigns.l0 (k + 1) y0 y1 y2)) ∧ (∀ y0 y1 y2 y3 y4 y5, LeO (impl_ofSigns.l1 k y0 y1 y2 y3 y4 y5) (impl_ofSigns.l1 (k + 1) y0 y1 y2 y3 y4 y5)) ∧ (∀ y0 y1 y2 y3 y4 y5, LeO (impl_ofSigns.l2 k y0 y1 y2 y3 y4 y5) (impl_ofSigns.l2 (k + 1) y0 y1 y2 y3 y4 y5))
  | 0 => ⟨fun _ _ r h => by simp [impl_ofSigns.j0] at h, fun _ _ _ r h => by simp [impl_ofSigns.l0] at h, fun _ _ _ _ _ _ r h => by simp [impl_ofSigns.l1] at h, fun _ _ _ _ _ _ r h => by simp [impl_ofSigns.l2] at h⟩
  | k + 1 => by
    obtain ⟨ih0, ih1, ih2, ih3⟩ := impl_ofSigns.mono_l k
    refine ⟨?_, ?_, ?_, ?_⟩
    · intro y0 y1
      unfold impl_ofSigns.j0
      repeat' first
      | (with_reducible exact ih0 _ _)
      | (with_reducible exact ih1 _ _ _)
      | (with_reducible exact ih2 _ _ _ _ _ _)
      | (with_reducible exact ih3 _ _ _ _ _ _)
      | (with_reducible exact LeO.refl _)
      | (with_reducible exact LeO.none _)
      | (with_reducible refine LeO.ite ?_ ?_)
      | (with_reducible refine LeO.bind ?_ (fun _ => ?_))
      | exact ih0 _ _
      | exact ih1 _ _ _
      | exact ih2 _ _ _ _ _ _
      | exact ih3 _ _ _ _ _ _
      | exact LeO.none _
      | refine LeO.ite ?_ ?_
      | refine LeO.bind ?_ (fun _ => ?_)
    · intro y0 y1 y2
      unfold impl_ofSigns.l0
      repeat' first
      | (with_reducible exact ih0 _ _)
      | (with_reducible exact ih1 _ _ _)
      | (with_reducible exact ih2 _ _ _ _ _ _)
      | (with_reducible exact ih3 _ _ _ _ _ _)
      | (with_reducible exact LeO.refl _)
      | (with_reducible exact LeO.none _)
      | (with_reducible refine LeO.ite ?_ ?_)
      | (with_reducible refine LeO.bind ?_ (fun _ => ?_))
      | exact ih0 _ _
      | exact ih1 _ _ _
      | exact ih2 _ _ _ _ _ _
      | exact ih3 _ _ _ _ _ _
      | exact LeO.none _
      | refine LeO.ite ?_ ?_
      | refine LeO.bind ?_ (fun _ => ?_)
    · intro y0 y1 y2 y3 y4 y5
      unfold impl_ofSigns.l1
      repeat' first
      | (with_reducible exact ih0 _ _)
      | (with_reducible exact ih1 _ _ _)
      | (with_reducible exact ih2 _ _ _ _ _ _)
      | (with_reducible exact ih3 _ _ _ _ _ _)
      | (with_reducible exact LeO.refl _)
      | (with_reducible exact LeO.none _)
      | (with_reducible refine LeO.ite ?_ ?_)
      | (with_reducible refine LeO.bind ?_ (fun _ => ?_))
      | exact ih0 _ _
      | exact ih1 _ _ _
      | exact ih2 _ _ _ _ _ _
      | exact ih3 _ _ _ _ _ _
      | exact LeO.none _
      | refine LeO.ite ?_ ?_
      | refine LeO.bind ?_ (fun _ => ?_)
    · intro y0 y1 y2 y3 y4 y5
      unfold impl_ofSigns.l2
      repeat' first
      | (with_reducible exact ih0 _ _)
      | (with_reducible exact ih1 _ _ _)
      | (with_reducible exact ih2 _ _ _ _ _ _)
      | (with_reducible exact ih3 _ _ _ _ _ _)
      | (with_reducible exact LeO.refl _)
      | (with_reducible exact LeO.none _)
      | (with_reducible refine LeO.ite ?_ ?_)
      | (with_reducible refine LeO.bind ?_ (fun _ => ?_))
      | exact ih0 _ _
      | exact ih1 _ _ _
      | exact ih2 _ _ _ _ _ _
      | exact ih3 _ _ _ _ _ _
      | exact LeO.none _
      | refine LeO.ite ?_ ?_
      | refine LeO.bind ?_ (fun _ => ?_)
theorem impl_ofSigns.mono : ∀ a0 k, LeO (impl_ofSigns.f k a0) (impl_ofSigns.f (k + 1) a0) := by
  intro a0 k
  obtain ⟨ih0, ih1, ih2, ih3⟩ := impl_ofSigns.mono_l k
  unfold impl_ofSigns.f
  repeat' first
      | (with_reducible exact ih0 _ _)
      | (with_reducible exact ih1 _ _ _)
      | (with_reducible exact ih2 _ _ _ _ _ _)
      | (with_reducible exact ih3 _ _ _ _ _ _)
      | (with_reducible exact LeO.refl _)
      | (with_reducible exact LeO.none _)
      | (with_reducible refine LeO.ite ?_ ?_)
      | (with_reducible refine LeO.bind ?_ (fun _ => ?_))
      | exact ih0 _ _
      | exact ih1 _ _ _
      | exact ih2 _ _ _ _ _ _
      | exact ih3 _ _ _ _ _ _
      | exact LeO.none _
      | refine LeO.ite ?_ ?_
      | refine LeO.bind ?_ (fun _ => ?_)
set_option maxHeartbeats 8000000 in
set_option maxRecDepth 100000 in
theorem impl_ofSigns.calls (k : Nat) (a0 : ByteArray) (r1 : ByteArray) (r2 : Bool) (w : World) (h : impl_ofSigns.f k a0 = some (r1, r2)) :
    Calls Tryd.prog 13 #[.string a0] w fun e w' => e = .returned (.tuple #[.string r1, .bool r2]) ∧ Below w.heap.size w w' := by
  have HB := Aside0.mk (Below.refl w.heap.size w)
  have H : (if ((a0.size : Int) % 4) = 0 then (impl_ofSigns.j0 k a0 (decide ((a0.size : Int) > 800))) else (impl_ofSigns.j0 k a0 true)) = some (r1, r2) := h
  clear h
  have HC2 := Aside0.mk H
  clear H
  go_enter Tryd.func13, Tryd.ntmps13
  go_upto_region 1 with (fail)
  go_cut [19] (fun v19 wc => ∃ (kq : Nat) (x19_1 : Bool), v19 = .bool x19_1 ∧ Aside0 (impl_ofSigns.j0 kq a0 x19_1 = some (r1, r2)) ∧ Aside0 (kq ≤ k) ∧ Aside0 (Below w.heap.size w wc))
  case first =>
    have H := HC2.out
    clear HC2
    by_cases c3 : ((a0.size : Int) % 4) = 0
    · rw [if_pos c3] at H
      have c3b0 : (((a0.size : Int) % 4) == 0) = true := beq_iff_eq.mpr c3
      have c3b1 : (((a0.size : Int) % 4) != 0) = false := bne_eq_false_iff_eq.mpr c3
      clear c3
      (first | rw [c3b0] | (simp only [i64_w, i32_w]; rw [c3b0]) | skip)
      have H' := Aside0.mk H
      clear H
      go_wp2
      go_meet
      case rel => exact ⟨_, (decide ((a0.size : Int) > 800)), (by first | rfl | (simp; done) | (simp [*]; done)), H', ⟨by first | omega | exact Nat.le_refl _⟩, ⟨by repeat (first | (with_reducible first | exact HB.out | apply below_alloc | apply pw_below_drewN | apply below_drew1) | exact HB.out)⟩⟩
    · rw [if_neg c3] at H
      have c3b0 : (((a0.size : Int) % 4) == 0) = false := beq_eq_false_iff_ne.mpr c3
      have c3b1 : (((a0.size : Int) % 4) != 0) = true := bne_iff_ne.mpr c3
      (first | rw [c3b0] | (simp only [i64_w, i32_w]; rw [c3b0]) | skip)
      have H' := Aside0.mk H
      clear H
      go_wp2
      go_meet
      case rel => exact ⟨_, (true), (by first | rfl | (simp; done) | (simp [*]; done)), H', ⟨by first | omega | exact Nat.le_refl _⟩, ⟨by repeat (first | (with_reducible first | exact HB.out | apply below_alloc | apply pw_below_drewN | apply below_drew1) | exact HB.out)⟩⟩
  case rest =>
    clear HC2
    try clear c1
    try clear p2
    try clear c3
    try clear c3b0
    try clear c3b1
    obtain ⟨kq, x19_1, rfl, HA, HJ1, HB⟩ := hcut
    cases kq with
    | zero => exact absurd HA.out (by simp [impl_ofSigns.j0])
    | succ kj1 =>
      have H := HA.out
      clear HA
      simp only [impl_ofSigns.j0] at H
      by_cases c4 : x19_1 = true
      · subst c4
        have H1 : (some ((⟨#[]⟩ : ByteArray), false)) = some (r1, r2) := by rw [if_pos rfl] at H; exact H
        clear H
        have H := H1
        clear H1
        simp only [Option.some.injEq, Prod.mk.injEq] at H
        obtain ⟨rfl, rfl⟩ := H
        go_wp2
        go_ret2
        exact ⟨by first | rfl | (simp [errW_none, errW_some] <;> rfl) | (simp [*, errW_none, errW_some] <;> rfl), by repeat (first | (with_reducible first | exact HB.out | apply below_alloc | apply pw_below_drewN | apply below_drew1) | exact HB.out)⟩
      · replace c4 := Bool.eq_false_iff.mpr c4
        subst c4
        have H1 : (impl_ofSigns.l0 kj1 a0 ([] : List Int) 0) = some (r1, r2) := by rw [if_neg (show ¬ (false = true) by decide)] at H; exact H
        clear H
        have H := H1
        clear H1
        have H' := Aside0.mk H
        clear H
        go_wp2
        go_loopg [4, 5] kj1 (fun kq v4 v5 w' => ∃ (x4_2 : List Int) (x5_2 : Int), v5 = .int .i64 x5_2 ∧ Aside0 (impl_ofSigns.l0 kq a0 x4_2 x5_2 = some (r1, r2)) ∧ Aside0 (kq ≤ kj1) ∧ Aside0 (Kd.R (Kd.int .u8) 5 w' w.heap.size (fun _ => True) v4 x4_2) ∧ Aside0 (Below w.heap.size w w'))
        case atStart => exact ⟨(([] : List Int)), (0), (by first | rfl | (simp; done) | (simp [*]; done)), H', ⟨Nat.le_refl _⟩, ⟨by first | exact Kd.R_nil _ _ _ _ _ | exact Kd.N_nil _ _ _ _ _ | exact Kd.V_nil _ _ _ _ _ | exact Kd.Q_nil _ _ _ _ _ | exact Kd.S_nil _ _ _ _ _⟩, ⟨by repeat (first | (with_reducible first | exact HB.out | apply below_alloc | apply pw_below_drewN | apply below_drew1) | exact HB.out)⟩⟩
        case round =>
          clear H'
          try clear c1
          try clear p2
          try clear c3
          try clear c3b0
          try clear c3b1
          try clear c4
          try clear p2
          obtain ⟨x4_2, x5_2, rfl, HA, HK2, HO_4, HB⟩ := hrel
          cases gk with
          | zero => exact absurd HA.out (by simp [impl_ofSigns.l0])
          | succ k2 =>
            have H := HA.out
            clear HA
            simp only [impl_ofSigns.l0] at H
            by_cases c5 : x5_2 < (a0.size : Int)
            · rw [if_pos c5] at H
              have c5b0 : decide (x5_2 < (a0.size : Int)) = true := decide_eq_true c5
              clear c5
              by_cases c6 : 0 ≤ x5_2
              · rw [if_pos c6] at H
                have c6b0 := eq_true c6
                have c6b1 : decide (0 ≤ x5_2) = true := decide_eq_true c6
                clear c6
                by_cases c7 : x5_2 ≤ (wrap64 (x5_2 + 4))
                · rw [if_pos c7] at H
                  have c7b0 := eq_true c7
                  have c7b1 : decide (x5_2 ≤ (wrap64 (x5_2 + 4))) = true := decide_eq_true c7
                  by_cases c8 : (wrap64 (x5_2 + 4)) ≤ (a0.size : Int)
                  · rw [if_pos c8] at H
                    have c8b0 := eq_true c8
                    have c8b1 : decide ((wrap64 (x5_2 + 4)) ≤ (a0.size : Int)) = true := decide_eq_true c8
                    replace H := Option.bind_eq_some_iff.mp H
                    obtain ⟨t116, A90, H⟩ := H
                    replace H : (impl_ofSigns.l1 k2 a0 x4_2 x5_2 t116 0 0) = some (r1, r2) := H
                    have A9 := Aside0.mk A90
                    clear A90
                    have H' := Aside0.mk H
                    clear H
                    go_wp2_with (first | ((with_reducible refine gate_callee (f := 25) rfl ?_); refine goesL_ (some 31) rfl rfl Tryd.func25 (by kernel_rfl) rfl #[.string (a0.extract (x5_2 : Int).toNat ((wrap64 (x5_2 + 4)) : Int).toNat), .string (⟨#[61]⟩ : ByteArray)] rfl (by (try simp only [List.map_toArray, List.map_cons, List.map_nil]); first | done | rfl | (simp only [List.length_drop, List.length_take]; rfl)) ?_; (with_reducible refine (strings_TrimRight.calls (a0.extract (x5_2 : Int).toNat ((wrap64 (x5_2 + 4)) : Int).toNat) (⟨#[61]⟩ : ByteArray) t116 _ A9.out).mono ?_); rintro e w' ⟨rfl, ⟨nd, rfl⟩⟩; refine ⟨_, rfl, ?_⟩))
                    go_loopg [7, 32] k2 (fun kq v7 v32 w' => ∃ (x7_3 : Int) (x32_3 : Int), v7 = .int .i64 x7_3 ∧ v32 = .int .i64 x32_3 ∧ Aside0 (impl_ofSigns.l1 kq a0 x4_2 x5_2 t116 x7_3 x32_3 = some (r1, r2)) ∧ Aside0 (kq ≤ k2) ∧ Aside0 (Kd.R (Kd.int .u8) 5 w' w.heap.size (fun _ => True) u4 x4_2) ∧ Aside0 (Below w.heap.size w w'))
                    case atStart => exact ⟨(0), (0), (by first | rfl | (simp; done) | (simp [*]; done)), (by first | rfl | (simp; done) | (simp [*]; done)), H', ⟨Nat.le_refl _⟩, ⟨by (with_reducible repeat (first | apply Kd.R_alloc | apply Kd.R_drewN | apply Kd.R_drew)); exact HO_4.out⟩, ⟨by repeat (first | (with_reducible first | exact HB.out | apply below_alloc | apply pw_below_drewN | apply below_drew1) | exact HB.out)⟩⟩
                    case round =>
                      clear H'
                      try clear c1
                      try clear c2
                      try clear p2
                      try clear c3
                      try clear c3b0
                      try clear c3b1
                      try clear c4
                      try clear c5
                      try clear c5b0
                      try clear c6
                      try clear c6b0
                      try clear c6b1
                      try clear p6
                      try clear c7
                      try clear c7b0
                      try clear c7b1
                      try clear c8
                      try clear c8b0
                      try clear c8b1
                      try clear p2
                      obtain ⟨x7_3, x32_3, rfl, rfl, HA, HK3, HO_4, HB⟩ := hrel
                      cases gk with
                      | zero => exact absurd HA.out (by simp [impl_ofSigns.l1])
                      | succ k3 =>
                        have H := HA.out
                        clear HA
                        simp only [impl_ofSigns.l1] at H
                        by_cases c10 : x32_3 < 4
                        · rw [if_pos c10] at H
                          have c10b0 : decide (x32_3 < 4) = true := decide_eq_true c10
                          clear c10
                          by_cases c11 : x32_3 ≥ (t116.size : Int)
                          · rw [if_pos c11] at H
                            have c11b0 : decide ((t116.size : Int) ≤ x32_3) = true := decide_eq_true c11
                            clear c11
                            have H' := Aside0.mk H
                            clear H
                            go_wp2
                            go_roundg k3
                            case measure => have := HJ1.out; have := HK2.out; have := HK3.out; omega
                            case rel => exact ⟨(wrap64 (x7_3 * 64)), (wrap64 (x32_3 + 1)), (by first | rfl | (simp; done) | (simp [*]; done)), (by first | rfl | (simp; done) | (simp [*]; done)), H', ⟨by have := HJ1.out; have := HK2.out; have := HK3.out; omega⟩, ⟨by (with_reducible repeat (first | apply Kd.R_alloc | apply Kd.R_drewN | apply Kd.R_drew)); exact HO_4.out⟩, ⟨by repeat (first | (with_reducible first | exact HB.out | apply below_alloc | apply pw_below_drewN | apply below_drew1) | exact HB.out)⟩⟩
                          · rw [if_neg c11] at H
                            have c11b0 : decide ((t116.size : Int) ≤ x32_3) = false := decide_eq_false c11
                            clear c11
                            by_cases c12 : 0 ≤ x32_3
                            · rw [if_pos c12] at H
                              have c12b0 : decide (0 ≤ x32_3) = true := decide_eq_true c12
                              clear c12
                              by_cases c13 : x32_3 < (t116.size : Int)
                              · rw [if_pos c13] at H
                                have c13b0 : decide (x32_3 < (t116.size : Int)) = true := decide_eq_true c13
                                clear c13
                                replace H := Option.bind_eq_some_iff.mp H
                                obtain ⟨t117, A150, H⟩ := H
                                replace H : (if t117 < 0 then (some ((⟨#[]⟩ : ByteArray), false)) else (impl_ofSigns.l1 k3 a0 x4_2 x5_2 t116 (Go.bits .or .i64 (wrap64 (x7_3 * 64)) t117) (wrap64 (x32_3 + 1)))) = some (r1, r2) := H
                                have A15 := Aside0.mk A150
                                clear A150
                                by_cases c16 : t117 < 0
                                · rw [if_pos c16] at H
                                  have c16b0 : decide (t117 < 0) = true := decide_eq_true c16
                                  clear c16
                                  simp only [Option.some.injEq, Prod.mk.injEq] at H
                                  obtain ⟨rfl, rfl⟩ := H
                                  have p14 : 0 ≤ (x32_3 : Int) := of_decide_eq_true (by first | (with_reducible assumption) | assumption)
                                  have q14 : x32_3 < (t116.size : Int) := of_decide_eq_true (by first | (with_reducible assumption) | assumption)
                                  have hx14 := bt_at t116 x32_3
                                  replace p14 := eq_true p14
                                  replace q14 := eq_true q14
                                  go_wp2_with (first | ((with_reducible refine gate_callee (f := 26) rfl ?_); refine goesL_ (some 44) rfl rfl Tryd.func26 (by kernel_rfl) rfl #[.string (⟨#[65, 66, 67, 68, 69, 70, 71, 72, 73, 74, 75, 76, 77, 78, 79, 80, 81, 82, 83, 84, 85, 86, 87, 88, 89, 90, 97, 98, 99, 100, 101, 102, 103, 104, 105, 106, 107, 108, 109, 110, 111, 112, 113, 114, 115, 116, 117, 118, 119, 120, 121, 122, 48, 49, 50, 51, 52, 53, 54, 55, 56, 57, 43, 47]⟩ : ByteArray), .int .u8 (bt t116 x32_3)] rfl (by (try simp only [List.map_toArray, List.map_cons, List.map_nil]); first | done | rfl | (simp only [List.length_drop, List.length_take]; rfl)) ?_; (with_reducible refine (strings_IndexByte.calls (⟨#[65, 66, 67, 68, 69, 70, 71, 72, 73, 74, 75, 76, 77, 78, 79, 80, 81, 82, 83, 84, 85, 86, 87, 88, 89, 90, 97, 98, 99, 100, 101, 102, 103, 104, 105, 106, 107, 108, 109, 110, 111, 112, 113, 114, 115, 116, 117, 118, 119, 120, 121, 122, 48, 49, 50, 51, 52, 53, 54, 55, 56, 57, 43, 47]⟩ : ByteArray) (bt t116 x32_3) t117 _ A15.out).mono ?_); rintro e w' ⟨rfl, ⟨nd, rfl⟩⟩; refine ⟨_, rfl, ?_⟩))
                                  go_ret2
                                  exact ⟨by first | rfl | (simp [errW_none, errW_some] <;> rfl) | (simp [*, errW_none, errW_some] <;> rfl), by repeat (first | (with_reducible first | exact HB.out | apply below_alloc | apply pw_below_drewN | apply below_drew1) | exact HB.out)⟩
                                · rw [if_neg c16] at H
                                  have c16b0 : decide (t117 < 0) = false := decide_eq_false c16
                                  clear c16
                                  have H' := Aside0.mk H
                                  clear H
                                  have p14 : 0 ≤ (x32_3 : Int) := of_decide_eq_true (by first | (with_reducible assumption) | assumption)
                                  have q14 : x32_3 < (t116.size : Int) := of_decide_eq_true (by first | (with_reducible assumption) | assumption)
                                  have hx14 := bt_at t116 x32_3
                                  replace p14 := eq_true p14
                                  replace q14 := eq_true q14
                                  go_wp2_with (first | ((with_reducible refine gate_callee (f := 26) rfl ?_); refine goesL_ (some 44) rfl rfl Tryd.func26 (by kernel_rfl) rfl #[.string (⟨#[65, 66, 67, 68, 69, 70, 71, 72, 73, 74, 75, 76, 77, 78, 79, 80, 81, 82, 83, 84, 85, 86, 87, 88, 89, 90, 97, 98, 99, 100, 101, 102, 103, 104, 105, 106, 107, 108, 109, 110, 111, 112, 113, 114, 115, 116, 117, 118, 119, 120, 121, 122, 48, 49, 50, 51, 52, 53, 54, 55, 56, 57, 43, 47]⟩ : ByteArray), .int .u8 (bt t116 x32_3)] rfl (by (try simp only [List.map_toArray, List.map_cons, List.map_nil]); first | done | rfl | (simp only [List.length_drop, List.length_take]; rfl)) ?_; (with_reducible refine (strings_IndexByte.calls (⟨#[65, 66, 67, 68, 69, 70, 71, 72, 73, 74, 75, 76, 77, 78, 79, 80, 81, 82, 83, 84, 85, 86, 87, 88, 89, 90, 97, 98, 99, 100, 101, 102, 103, 104, 105, 106, 107, 108, 109, 110, 111, 112, 113, 114, 115, 116, 117, 118, 119, 120, 121, 122, 48, 49, 50, 51, 52, 53, 54, 55, 56, 57, 43, 47]⟩ : ByteArray) (bt t116 x32_3) t117 _ A15.out).mono ?_); rintro e w' ⟨rfl, ⟨nd, rfl⟩⟩; refine ⟨_, rfl, ?_⟩))
                                  go_roundg k3
                                  case measure => have := HJ1.out; have := HK2.out; have := HK3.out; omega
                                  case rel => exact ⟨(Go.bits .or .i64 (wrap64 (x7_3 * 64)) t117), (wrap64 (x32_3 + 1)), (by first | rfl | (simp; done) | (simp [*]; done)), (by first | rfl | (simp; done) | (simp [*]; done)), H', ⟨by have := HJ1.out; have := HK2.out; have := HK3.out; omega⟩, ⟨by (with_reducible repeat (first | apply Kd.R_alloc | apply Kd.R_drewN | apply Kd.R_drew)); exact HO_4.out⟩, ⟨by repeat (first | (with_reducible first | exact HB.out | apply below_alloc | apply pw_below_drewN | apply below_drew1) | exact HB.out)⟩⟩
                              · rw [if_neg c13] at H
                                exact absurd H (by simp)
                            · rw [if_neg c12] at H
                              exact absurd H (by simp)
                        · rw [if_neg c10] at H
                          have c10b0 : decide (x32_3 < 4) = false := decide_eq_false c10
                          clear c10
                          by_cases c17 : (t116.size : Int) < 2
                          · rw [if_pos c17] at H
                            have c17b0 : decide ((t116.size : Int) < 2) = true := decide_eq_true c17
                            have c17b1 : decide (t116.size < 2) = true := decide_eq_true (by omega)
                            clear c17
                            simp only [Option.some.injEq, Prod.mk.injEq] at H
                            obtain ⟨rfl, rfl⟩ := H
                            go_wp2
                            go_ret2
                            exact ⟨by first | rfl | (simp [errW_none, errW_some] <;> rfl) | (simp [*, errW_none, errW_some] <;> rfl), by repeat (first | (with_reducible first | exact HB.out | apply below_alloc | apply pw_below_drewN | apply below_drew1) | exact HB.out)⟩
                          · rw [if_neg c17] at H
                            have c17b0 : decide ((t116.size : Int) < 2) = false := decide_eq_false c17
                            have c17b1 : decide (t116.size < 2) = false := decide_eq_false (by omega)
                            clear c17
                            have H' := Aside0.mk H
                            clear H
                            go_wp2
                            go_loopg [4, 57] k3 (fun kq v4 v57 w' => ∃ (x4_4 : List Int) (x57_4 : Int), v57 = .int .i64 x57_4 ∧ Aside0 (impl_ofSigns.l2 kq a0 x4_4 x5_2 x7_3 (wrap64 ((t116.size : Int) - 1)) x57_4 = some (r1, r2)) ∧ Aside0 (kq ≤ k3) ∧ Aside0 (Kd.R (Kd.int .u8) 5 w' w.heap.size (fun _ => True) v4 x4_4) ∧ Aside0 (Below w.heap.size w w'))
                            case atStart => exact ⟨(x4_2), (0), (by first | rfl | (simp; done) | (simp [*]; done)), H', ⟨Nat.le_refl _⟩, ⟨by (with_reducible repeat (first | apply Kd.R_alloc | apply Kd.R_drewN | apply Kd.R_drew)); exact HO_4.out⟩, ⟨by repeat (first | (with_reducible first | exact HB.out | apply below_alloc | apply pw_below_drewN | apply below_drew1) | exact HB.out)⟩⟩
                            case round =>
                              clear H'
                              try clear c1
                              try clear p1
                              try clear q1
                              try clear hx1
                              try clear c2
                              try clear p2
                              try clear c3
                              try clear c3b0
                              try clear c3b1
                              try clear c4
                              try clear c5
                              try clear c5b0
                              try clear c6
                              try clear c6b0
                              try clear c6b1
                              try clear p6
                              try clear c7
                              try clear c7b0
                              try clear c7b1
                              try clear c8
                              try clear c8b0
                              try clear c8b1
                              try clear c10
                              try clear c10b0
                              try clear c11
                              try clear c11b0
                              try clear c12
                              try clear c12b0
                              try clear c13
                              try clear c13b0
                              try clear p14
                              try clear q14
                              try clear hx14
                              try clear c16
                              try clear c16b0
                              try clear c17
                              try clear c17b0
                              try clear c17b1
                              try clear p14
                              try clear p2
                              try clear p6
                              try clear q14
                              obtain ⟨x4_4, x57_4, rfl, HA, HK4, HO_4, HB⟩ := hrel
                              cases gk with
                              | zero => exact absurd HA.out (by simp [impl_ofSigns.l2])
                              | succ k4 =>
                                have H := HA.out
                                clear HA
                                simp only [impl_ofSigns.l2] at H
                                by_cases c18 : x57_4 < (wrap64 ((t116.size : Int) - 1))
                                · rw [if_pos c18] at H
                                  have c18b0 : decide (x57_4 < (wrap64 ((t116.size : Int) - 1))) = true := decide_eq_true c18
                                  clear c18
                                  obtain ⟨ji19, hji19⟩ : ∃ j_ : Int, (wrap64 (16 - (wrap64 (8 * x57_4)))) = j_ := ⟨_, rfl⟩
                                  replace H : (if 0 ≤ (ji19) then (if x4_4.length < 140737488355328 then (impl_ofSigns.l2 k4 a0 (x4_4 ++ [(shr .i64 x7_3 (ji19)) % 256]) x5_2 x7_3 (wrap64 ((t116.size : Int) - 1)) (wrap64 (x57_4 + 1))) else (none)) else (none)) = some (r1, r2) := by first | (rw [hji19] at H; exact H) | (simp only [hji19] at H ⊢; exact H)
                                  have hji19w : (IntKind.i64.wrap (16 - (wrap64 (8 * x57_4)))) = ji19 := (i64_w _).trans hji19
                                  by_cases c20 : 0 ≤ (ji19)
                                  · rw [if_pos c20] at H
                                    have c20b0 := eq_true c20
                                    have c20b1 : decide (0 ≤ (ji19)) = true := decide_eq_true c20
                                    clear c20
                                    obtain ⟨ji21, hji21⟩ : ∃ j_ : Int, (shr .i64 x7_3 (ji19)) = j_ := ⟨_, rfl⟩
                                    replace H : (if x4_4.length < 140737488355328 then (impl_ofSigns.l2 k4 a0 (x4_4 ++ [(ji21) % 256]) x5_2 x7_3 (wrap64 ((t116.size : Int) - 1)) (wrap64 (x57_4 + 1))) else (none)) = some (r1, r2) := by first | (rw [hji21] at H; exact H) | (simp only [hji21] at H ⊢; exact H)
                                    have hji21_ : (x7_3 / 2 ^ min (ji19).toNat 64) = ji21 := hji21
                                    have hji21z : (ji19) ≤ 64 → (x7_3 / 2 ^ (ji19).toNat) = ji21 := shr_small hji21
                                    by_cases c22 : x4_4.length < 140737488355328
                                    · rw [if_pos c22] at H
                                      have LMc22 := Aside0.mk c22
                                      clear c22
                                      obtain ⟨y118, hy118⟩ : ∃ y_ : List Int, y_ = (x4_4 ++ [(ji21) % 256]) := ⟨_, rfl⟩
                                      replace H : (impl_ofSigns.l2 k4 a0 y118 x5_2 x7_3 (wrap64 ((t116.size : Int) - 1)) (wrap64 (x57_4 + 1))) = some (r1, r2) := by first | (rw [hy118]; with_reducible exact H) | (have H2_ := (Option.bind_some _ _).symm.trans H; rw [hy118]; with_reducible exact H2_) | (have H2_ := (Option.bind_some _ _).symm.trans H; with_reducible exact H2_) | with_reducible exact H | (rw [hy118]; exact H) | exact H
                                      have Ny118 := Aside0.mk hy118
                                      clear hy118
                                      have H' := Aside0.mk H
                                      clear H
                                      go_wp2_with (first | ((with_reducible refine gate_builtin (b := .append) (xs := #[.tmp 60, .tmp 67]) rfl ?_); (try (refine gate_guard (by rfl) ?_; dsimp only)); at_builtin; refine Kd.R_append (Kd.int .u8) (w0 := w) w.heap.size rfl (.tmp 60) (.tmp 67) 27 5 (.int .u8 0) 1 rfl Tryd.underlying27 info5 rfl (by decide) (by omega) u4 x4_4 ((ji21) % 256) [.int .u8 ((ji21) % 256)] (fun _ => True) (fun _ => False) rfl rfl ?aP (fun _ hk => hk.elim) ?aF ?aO ?aB ?aS ?aL ?_; (case aP => exact rfl); (case aB => exact (by repeat (first | (with_reducible first | exact HB.out | apply below_alloc | apply pw_below_drewN | apply below_drew1) | exact HB.out))); (case aF => exact (fun _ _ => trivial)); (case aO => exact (by (with_reducible repeat (first | apply Kd.R_alloc | apply Kd.R_drewN | apply Kd.R_drew)); exact HO_4.out)); (case aS => exact (below_size (by repeat (first | (with_reducible first | exact HB.out | apply below_alloc | apply pw_below_drewN | apply below_drew1) | exact HB.out)))); (case aL => have := LMc22.out; omega); intro v119 w23 ho hb hg hat; rw [← Ny118.out] at ho; have n0_ := Aside0.mk (hb); have n1_ := Aside0.mk (ho); clear HB; clear HO_4; have HB := n0_; have HO120 := n1_; clear n0_ n1_; clear ho hb hg hat))
                                      go_roundg k4
                                      case measure => have := HJ1.out; have := HK2.out; have := HK3.out; have := HK4.out; omega
                                      case rel => exact ⟨(y118), (wrap64 (x57_4 + 1)), (by first | rfl | (simp; done) | (simp [*]; done)), H', ⟨by have := HJ1.out; have := HK2.out; have := HK3.out; have := HK4.out; omega⟩, ⟨by (with_reducible repeat (first | apply Kd.R_alloc | apply Kd.R_drewN | apply Kd.R_drew)); exact HO120.out⟩, ⟨by repeat (first | (with_reducible first | exact HB.out | apply below_alloc | apply pw_below_drewN | apply below_drew1) | exact HB.out)⟩⟩
                                    · rw [if_neg c22] at H
                                      exact absurd H (by simp)
                                  · rw [if_neg c20] at H
                                    exact absurd H (by simp)
                                · rw [if_neg c18] at H
                                  have c18b0 : decide (x57_4 < (wrap64 ((t116.size : Int) - 1))) = false := decide_eq_false c18
                                  clear c18
                                  have H' := Aside0.mk H
                                  clear H
                                  go_wp2
                                  go_roundg k4
                                  case measure => have := HJ1.out; have := HK2.out; have := HK3.out; have := HK4.out; omega
                                  case rel => exact ⟨(x4_4), (wrap64 (x5_2 + 4)), (by first | rfl | (simp; done) | (simp [*]; done)), H', ⟨by have := HJ1.out; have := HK2.out; have := HK3.out; have := HK4.out; omega⟩, ⟨by (with_reducible repeat (first | apply Kd.R_alloc | apply Kd.R_drewN | apply Kd.R_drew)); exact HO_4.out⟩, ⟨by repeat (first | (with_reducible first | exact HB.out | apply below_alloc | apply pw_below_drewN | apply below_drew1) | exact HB.out)⟩⟩
                  · rw [if_neg c8] at H
                    exact absurd H (by simp)
                · rw [if_neg c7] at H
                  exact absurd H (by simp)
              · rw [if_neg c6] at H
                exact absurd H (by simp)
            · rw [if_neg c5] at H
              have c5b0 : decide (x5_2 < (a0.size : Int)) = false := decide_eq_false c5
              clear c5
              replace H := Option.bind_eq_some_iff.mp H
              obtain ⟨t115, A240, H⟩ := H
              replace H : (if t115.toList = a0.toList then (if (x4_2.length : Int) > 600 then (some ((⟨#[]⟩ : ByteArray), false)) else (some (strOfNums x4_2, true))) else (some ((⟨#[]⟩ : ByteArray), false))) = some (r1, r2) := H
              have A24 := Aside0.mk A240
              clear A240
              by_cases c25 : t115.toList = a0.toList
              · rw [if_pos c25] at H
                have c25b0 : (t115.toList == a0.toList) = true := beq_iff_eq.mpr c25
                have c25b1 : (t115.toList != a0.toList) = false := bne_eq_false_iff_eq.mpr c25
                clear c25
                by_cases c26 : (x4_2.length : Int) > 600
                · rw [if_pos c26] at H
                  have c26b0 : decide (600 < (x4_2.length : Int)) = true := decide_eq_true c26
                  have c26b1 : decide (600 < x4_2.length) = true := decide_eq_true (by omega)
                  clear c26
                  simp only [Option.some.injEq, Prod.mk.injEq] at H
                  obtain ⟨rfl, rfl⟩ := H
                  have hcv27 := own_string (P := Tryd.prog) Tryd.underlying27 Tryd.underlying5 Tryd.underlying9 (Kd.own_of_R HO_4.out)
                  go_wp2_with (first | ((with_reducible refine gate_callee (f := 27) rfl ?_); refine goesL_ (some 72) rfl rfl Tryd.func27 (by kernel_rfl) rfl #[.string (strOfNums x4_2)] rfl (by (try simp only [List.map_toArray, List.map_cons, List.map_nil]); first | done | rfl | (simp only [List.length_drop, List.length_take]; rfl)) ?_; (with_reducible refine (impl_signsOf.calls (strOfNums x4_2) t115 _ A24.out).mono ?_); rintro e w28 ⟨rfl, hb⟩; refine ⟨_, rfl, ?_⟩; have n0_ := Aside0.mk (Kd.R_below (by (with_reducible repeat (first | apply Kd.R_alloc | apply Kd.R_drewN | apply Kd.R_drew)); exact HO_4.out) hb); have n1_ := Aside0.mk (below_step (by repeat (first | (with_reducible first | exact HB.out | apply below_alloc | apply pw_below_drewN | apply below_drew1) | exact HB.out)) hb); clear HO_4; clear HB; have HO_4 := n0_; have HB := n1_; clear n0_ n1_; (try clear hb); (try clear hb2); (try clear hk); (try clear hi); obtain ⟨Ao29, co29, eo29⟩ := Kd.R_slice HO_4.out; subst eo29))
                  go_ret2
                  exact ⟨by first | rfl | (simp [errW_none, errW_some] <;> rfl) | (simp [*, errW_none, errW_some] <;> rfl), by repeat (first | (with_reducible first | exact HB.out | apply below_alloc | apply pw_below_drewN | apply below_drew1) | exact HB.out)⟩
                · rw [if_neg c26] at H
                  have c26b0 : decide (600 < (x4_2.length : Int)) = false := decide_eq_false c26
                  have c26b1 : decide (600 < x4_2.length) = false := decide_eq_false (by omega)
                  clear c26
                  simp only [Option.some.injEq, Prod.mk.injEq] at H
                  obtain ⟨rfl, rfl⟩ := H
                  have hcv30 := own_string (P := Tryd.prog) Tryd.underlying27 Tryd.underlying5 Tryd.underlying9 (Kd.own_of_R HO_4.out)
                  go_wp2_with (first | ((with_reducible refine gate_callee (f := 27) rfl ?_); refine goesL_ (some 72) rfl rfl Tryd.func27 (by kernel_rfl) rfl #[.string (strOfNums x4_2)] rfl (by (try simp only [List.map_toArray, List.map_cons, List.map_nil]); first | done | rfl | (simp only [List.length_drop, List.length_take]; rfl)) ?_; (with_reducible refine (impl_signsOf.calls (strOfNums x4_2) t115 _ A24.out).mono ?_); rintro e w31 ⟨rfl, hb⟩; refine ⟨_, rfl, ?_⟩; have n0_ := Aside0.mk (Kd.R_below (by (with_reducible repeat (first | apply Kd.R_alloc | apply Kd.R_drewN | apply Kd.R_drew)); exact HO_4.out) hb); have n1_ := Aside0.mk (below_step (by repeat (first | (with_reducible first | exact HB.out | apply below_alloc | apply pw_below_drewN | apply below_drew1) | exact HB.out)) hb); clear HO_4; clear HB; have HO_4 := n0_; have HB := n1_; clear n0_ n1_; (try clear hb); (try clear hb2); (try clear hk); (try clear hi); obtain ⟨Ao32, co32, eo32⟩ := Kd.R_slice HO_4.out; subst eo32; have hcv33 := own_string (P := Tryd.prog) Tryd.underlying27 Tryd.underlying5 Tryd.underlying9 (Kd.own_of_R HO_4.out)))
                  go_ret2
                  exact ⟨by first | rfl | (simp [errW_none, errW_some] <;> rfl) | (simp [*, errW_none, errW_some] <;> rfl), by repeat (first | (with_reducible first | exact HB.out | apply below_alloc | apply pw_below_drewN | apply below_drew1) | exact HB.out)⟩
              · rw [if_neg c25] at H
                have c25b0 : (t115.toList == a0.toList) = false := beq_eq_false_iff_ne.mpr c25
                have c25b1 : (t115.toList != a0.toList) = true := bne_iff_ne.mpr c25
                simp only [Option.some.injEq, Prod.mk.injEq] at H
                obtain ⟨rfl, rfl⟩ := H
                have hcv34 := own_string (P := Tryd.prog) Tryd.underlying27 Tryd.underlying5 Tryd.underlying9 (Kd.own_of_R HO_4.out)
                go_wp2_with (first | ((with_reducible refine gate_callee (f := 27) rfl ?_); refine goesL_ (some 72) rfl rfl Tryd.func27 (by kernel_rfl) rfl #[.string (strOfNums x4_2)] rfl (by (try simp only [List.map_toArray, List.map_cons, List.map_nil]); first | done | rfl | (simp only [List.length_drop, List.length_take]; rfl)) ?_; (with_reducible refine (impl_signsOf.calls (strOfNums x4_2) t115 _ A24.out).mono ?_); rintro e w35 ⟨rfl, hb⟩; refine ⟨_, rfl, ?_⟩; have n0_ := Aside0.mk (Kd.R_below (by (with_reducible repeat (first | apply Kd.R_alloc | apply Kd.R_drewN | apply Kd.R_drew)); exact HO_4.out) hb); have n1_ := Aside0.mk (below_step (by repeat (first | (with_reducible first | exact HB.out | apply below_alloc | apply pw_below_drewN | apply below_drew1) | exact HB.out)) hb); clear HO_4; clear HB; have HO_4 := n0_; have HB := n1_; clear n0_ n1_; (try clear hb); (try clear hb2); (try clear hk); (try clear hi)))
                go_ret2
                exact ⟨by first | rfl | (simp [errW_none, errW_some] <;> rfl) | (simp [*, errW_none, errW_some] <;> rfl), by repeat (first | (with_reducible first | exact HB.out | apply below_alloc | apply pw_below_drewN | apply below_drew1) | exact HB.out)⟩

/-! ### impl_OfSigns: function 7 -/
def impl_OfSigns.f (k : Nat) (a0 : ByteArray) : Option (ByteArray × Bool) := if (a0.size : Int) > 800 then (some ((⟨#[]⟩ : ByteArray), false)) else ((impl_ofSigns.f k a0).bind fun bt121 => (some (bt121.1, bt121.2)))
theorem impl_OfSigns.mono : ∀ a0 k, LeO (impl_OfSigns.f k a0) (impl_OfSigns.f (k + 1) a0) := by
  intro a0 k
  unfold impl_OfSigns.f
  repeat' first
      | (with_reducible exact impl_ofSigns.mono _ _)
      | (with_reducible exact LeO.refl _)
      | (with_reducible exact LeO.none _)
      | (with_reducible refine LeO.ite ?_ ?_)
      | (with_reducible refine LeO.bind ?_ (fun _ => ?_))
      | exact impl_ofSigns.mono _ _
      | exact LeO.none _
      | refine LeO.ite ?_ ?_
      | refine LeO.bind ?_ (fun _ => ?_)
set_option maxHeartbeats 8000000 in
set_option maxRecDepth 100000 in
theorem impl_OfSigns.calls (k : Nat) (a0 : ByteArray) (r1 : ByteArray) (r2 : Bool) (w : World) (h : impl_OfSigns.f k a0 = some (r1, r2)) :
    Calls Tryd.prog 7 #[.string a0] w fun e w' => e = .returned (.tuple #[.string r1, .bool r2]) ∧ Below w.heap.size w w' := by
  have HB := Aside0.mk (Below.refl w.heap.size w)
  have H : (if (a0.size : Int) > 800 then (some ((⟨#[]⟩ : ByteArray), false)) else ((impl_ofSigns.f k a0).bind fun bt121 => (some (bt121.1, bt121.2)))) = some (r1, r2) := h
  clear h
  by_cases c2 : (a0.size : Int) > 800
  · rw [if_pos c2] at H
    have c2b0 : decide (800 < (a0.size : Int)) = true := decide_eq_true c2
    have c2b1 : decide (800 < a0.size) = true := decide_eq_true (by omega)
    clear c2
    simp only [Option.some.injEq, Prod.mk.injEq] at H
    obtain ⟨rfl, rfl⟩ := H
    go_enter Tryd.func7, Tryd.ntmps7
    go_wp2
    go_ret2
    exact ⟨by first | rfl | (simp [errW_none, errW_some] <;> rfl) | (simp [*, errW_none, errW_some] <;> rfl), by repeat (first | (with_reducible first | exact HB.out | apply below_alloc | apply pw_below_drewN | apply below_drew1) | exact HB.out)⟩
  · rw [if_neg c2] at H
    have c2b0 : decide (800 < (a0.size : Int)) = false := decide_eq_false c2
    have c2b1 : decide (800 < a0.size) = false := decide_eq_false (by omega)
    clear c2
    replace H := Option.bind_eq_some_iff.mp H
    obtain ⟨⟨t121, t122⟩, A30, H⟩ := H
    replace H : (some (t121, t122)) = some (r1, r2) := H
    have A3 := Aside0.mk A30
    clear A30
    simp only [Option.some.injEq, Prod.mk.injEq] at H
    obtain ⟨rfl, rfl⟩ := H
    go_enter Tryd.func7, Tryd.ntmps7
    go_wp2_with (first | ((with_reducible refine gate_callee (f := 13) rfl ?_); refine goesL_ (some 8) rfl rfl Tryd.func13 (by kernel_rfl) rfl #[.string a0] rfl (by (try simp only [List.map_toArray, List.map_cons, List.map_nil]); first | done | rfl | (simp only [List.length_drop, List.length_take]; rfl)) ?_; (with_reducible refine (impl_ofSigns.calls k a0 t121 t122 _ A3.out).mono ?_); rintro e w4 ⟨rfl, hb⟩; refine ⟨_, rfl, ?_⟩; have n0_ := Aside0.mk (below_step (by repeat (first | (with_reducible first | exact HB.out | apply below_alloc | apply pw_below_drewN | apply below_drew1) | exact HB.out)) hb); clear HB; have HB := n0_; clear n0_; (try clear hb); (try clear hb2); (try clear hk); (try clear hi)))
    go_ret2
    exact ⟨by first | rfl | (simp [errW_none, errW_some] <;> rfl) | (simp [*, errW_none, errW_some] <;> rfl), by repeat (first | (with_reducible first | exact HB.out | apply below_alloc | apply pw_below_drewN | apply below_drew1) | exact HB.out)⟩

end Go.Proofs.YtmajmplhojlhbaaDoor.SFnExactOfSigns
