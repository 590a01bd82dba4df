/- The law FnExactLessPairs answers true for all pairs of texts. No condition. -/
import Derived.Test.YtbacmgbpjcnknaaDoorSFnExactLessPairsx3
import Derived.Lib.Strings
namespace Go.Proofs.YtbacmgbpjcnknaaDoor.Pure
open Go.RowKit Go.Proofs.YtbacmgbpjcnknaaDoor.SFnExactLessPairs Go.Proofs.YtbacmgbpjcnknaaDoorW.PrintWords Go.Proofs.YtbacmgbpjcnknaaDoorW.PrintLast Go.Proofs.YtbacmgbpjcnknaaDoorW.PrintMore

/-! ### one rune: the program's decoder (Go's, by its contract) against the reference's -/
theorem dc_wraps (n : Int) (h0 : 0 ≤ n) (h1 : n < 2 ^ 40) : IntKind.i64.wrap n = n := by
  rw [IntKind.wrap_i64]
  have : (2 : Int) ^ 40 = 1099511627776 := by decide
  omega
theorem dc_lim : (2 : Int) ^ 40 = 1099511627776 := by decide
theorem dc_and {x : Int} (h0 : 0 ≤ x) (h1 : x < 1000000000) : Go.bits .and .i64 x 63 = x % 64 := bits_mask .i64 40 (by decide) dc_wraps 6 (by decide) x h0 (by rw [dc_lim]; omega)
theorem dc_or (n b : Int) (h0 : 0 ≤ n) (h1 : n < 4294967296) (hb0 : 0 ≤ b) (hb1 : b < 64) : Go.bits .or .i64 (n * 64) b = n * 64 + b := by
  have l40 : (2 : Int) ^ 40 = 1099511627776 := by decide
  exact bits_join .i64 40 (by decide) dc_wraps 6 (n * 64) b (by omega) (by omega) (by omega) hb0 (by omega) (by omega)
theorem dc_wraps8 (n : Int) (h0 : 0 ≤ n) (h1 : n < 2 ^ 8) : IntKind.u8.wrap n = n := by
  have l8 : (2 : Int) ^ 8 = 256 := by decide
  simp [IntKind.wrap, IntKind.bits, IntKind.signed]
  omega
theorem dc_and8' (b : Nat) (h : b < 256) : Go.bits .and .u8 (b : Int) 63 = (b : Int) % 64 := by
  have l8 : (2 : Int) ^ 8 = 256 := by decide
  exact bits_mask .u8 8 (by decide) dc_wraps8 6 (by decide) (b : Int) (by omega) (by omega)
/-- a rune's bytes -/
def encN (n : Nat) : List Nat :=
  if n < 128 then [n] else if n < 2048 then [192 + n / 64, 128 + n % 64] else if n < 65536 then [224 + n / 4096, 128 + n / 64 % 64, 128 + n % 64]
  else [240 + n / 262144, 128 + n / 4096 % 64, 128 + n / 64 % 64, 128 + n % 64]
theorem s1 (a : Int) : strOfNums [a] = ⟨#[UInt8.ofNat a.toNat]⟩ := rfl
theorem s2 (a b : Int) : strOfNums [a, b] = ⟨#[UInt8.ofNat a.toNat, UInt8.ofNat b.toNat]⟩ := rfl
theorem s3 (a b c : Int) : strOfNums [a, b, c] = ⟨#[UInt8.ofNat a.toNat, UInt8.ofNat b.toNat, UInt8.ofNat c.toNat]⟩ := rfl
theorem s4 (a b c d : Int) : strOfNums [a, b, c, d] = ⟨#[UInt8.ofNat a.toNat, UInt8.ofNat b.toNat, UInt8.ofNat c.toNat, UInt8.ofNat d.toNat]⟩ := rfl
theorem enc_ev (n : Nat) (h : n ≤ 2097151) : ∃ t, spec_l2Bytes.f (n : Int) = some t ∧ t.toList.map UInt8.toNat = encN n := by
  unfold spec_l2Bytes.f encN
  by_cases h1 : n < 128
  · rw [if_pos (show (n : Int) < 128 by omega), if_pos h1]
    refine ⟨_, rfl, ?_⟩
    have e1 : ((n : Int) % 256).toNat = n := by omega
    rw [s1, e1, Lib.toList_data]
    simp
    omega
  · rw [if_neg (show ¬ (n : Int) < 128 by omega), if_neg h1]
    by_cases h2 : n < 2048
    · have e1 : (wrap64 (192 + (n : Int) / 64) % 256).toNat = 192 + n / 64 := by unfold wrap64; omega
      have e2 : (wrap64 (128 + (n : Int) % 64) % 256).toNat = 128 + n % 64 := by unfold wrap64; omega
      rw [if_pos (show (n : Int) < 2048 by omega), if_pos h2, dc_and (by omega) (by omega), s2, e1, e2]
      refine ⟨_, rfl, ?_⟩
      rw [Lib.toList_data]
      simp
      omega
    · rw [if_neg (show ¬ (n : Int) < 2048 by omega), if_neg h2]
      by_cases h3 : n < 65536
      · have e1 : (wrap64 (224 + (n : Int) / 4096) % 256).toNat = 224 + n / 4096 := by unfold wrap64; omega
        have e2 : (wrap64 (128 + (n : Int) / 64 % 64) % 256).toNat = 128 + n / 64 % 64 := by unfold wrap64; omega
        have e3 : (wrap64 (128 + (n : Int) % 64) % 256).toNat = 128 + n % 64 := by unfold wrap64; omega
        rw [if_pos (show (n : Int) < 65536 by omega), if_pos h3, dc_and (x := (n : Int) / 64) (by omega) (by omega), dc_and (x := (n : Int)) (by omega) (by omega), s3, e1, e2, e3]
        refine ⟨_, rfl, ?_⟩
        rw [Lib.toList_data]
        simp
        omega
      · have e1 : (wrap64 (240 + (n : Int) / 262144) % 256).toNat = 240 + n / 262144 := by unfold wrap64; omega
        have e2 : (wrap64 (128 + (n : Int) / 4096 % 64) % 256).toNat = 128 + n / 4096 % 64 := by unfold wrap64; omega
        have e3 : (wrap64 (128 + (n : Int) / 64 % 64) % 256).toNat = 128 + n / 64 % 64 := by unfold wrap64; omega
        have e4 : (wrap64 (128 + (n : Int) % 64) % 256).toNat = 128 + n % 64 := by unfold wrap64; omega
        rw [if_neg (show ¬ (n : Int) < 65536 by omega), if_neg h3, dc_and (x := (n : Int) / 4096) (by omega) (by omega), dc_and (x := (n : Int) / 64) (by omega) (by omega), dc_and (x := (n : Int)) (by omega) (by omega), s4, e1, e2, e3, e4]
        refine ⟨_, rfl, ?_⟩
        rw [Lib.toList_data]
        simp
        omega
theorem in_ev (a lo hi : Int) : spec_l1In.f a lo hi = some (decide (lo ≤ a ∧ a ≤ hi)) := by
  unfold spec_l1In.f
  by_cases h : a ≥ lo
  · rw [if_pos h]; congr 1; simp; omega
  · rw [if_neg h]; congr 1; simp; omega
/-- a rune -/
def gN (n : Nat) : Bool := decide (n ≤ 1114111) && !decide (55296 ≤ n ∧ n ≤ 57343)
theorem good_ev (n : Nat) : spec_GoodRune.f (n : Int) = some (gN n) := by
  unfold spec_GoodRune.f gN
  rw [in_ev, in_ev, Option.bind_some, Option.bind_some]
  by_cases h : n ≤ 1114111
  · rw [decide_eq_true (show 0 ≤ (n : Int) ∧ (n : Int) ≤ 1114111 by omega), if_pos rfl, decide_eq_true h]
    by_cases h2 : 55296 ≤ n ∧ n ≤ 57343
    · rw [decide_eq_true (show 55296 ≤ (n : Int) ∧ (n : Int) ≤ 57343 by omega), decide_eq_true h2]; rfl
    · rw [decide_eq_false (show ¬ (55296 ≤ (n : Int) ∧ (n : Int) ≤ 57343) by omega), decide_eq_false h2]; rfl
  · rw [decide_eq_false (show ¬ (0 ≤ (n : Int) ∧ (n : Int) ≤ 1114111) by omega), if_neg (by decide), decide_eq_false h]; rfl

/-- the byte j behind place i -/
def gB (s : ByteArray) (i j : Nat) : Nat := ((s.extract i s.size).get! j).toNat
theorem gB_lt (s : ByteArray) (i j : Nat) : gB s i j < 256 := by unfold gB; exact UInt8.toNat_lt _
theorem gB_bt (s : ByteArray) (i j : Nat) (h : i + j < s.size) : bt s ((i + j : Nat) : Int) = (gB s i j : Int) := by
  unfold bt gB
  have h2 : j < (s.extract i s.size).size := by rw [ByteArray.size_extract]; omega
  simp only [Int.toNat_natCast]
  rw [dif_pos h, Utf8W.get!_of_lt _ _ h2, ByteArray.getElem_extract]
theorem gB_list (s : ByteArray) (i m : Nat) (h : i + m ≤ s.size) : (s.extract i (i + m)).toList.map UInt8.toNat = (List.range m).map (gB s i) := by
  rw [Lib.extract_toList]
  apply List.ext_getElem
  · rw [List.length_map, List.length_take, List.length_drop, List.length_map, List.length_range, ← Lib.size_eq]
    omega
  · intro j h1 h2
    have hj : j < m := by simpa using h2
    have h3 : j < (s.extract i s.size).size := by rw [ByteArray.size_extract]; omega
    rw [List.getElem_map, List.getElem_map, List.getElem_range, List.getElem_take, List.getElem_drop]
    unfold gB
    rw [Utf8W.get!_of_lt _ _ h3, ByteArray.getElem_extract]
    rfl
theorem nat_of_bytes {a b : List UInt8} (h : a.map UInt8.toNat = b.map UInt8.toNat) : a = b :=
  (List.map_inj_right (fun _ _ e => UInt8.toNat_inj.mp e)).mp h
/-- what the reference does behind the lead byte: the other bytes' six bits -/
def accN (s : ByteArray) (i : Nat) : Nat → Nat → Nat → Nat
  | 0, _, n => n
  | d + 1, j, n => accN s i d (j + 1) (n * 64 + gB s i j % 64)
/-- what it answers there -/
def finN (s : ByteArray) (i n m : Nat) : Int × Int := if gN n = true ∧ encN n = (List.range m).map (gB s i) then ((n : Int), (m : Int)) else (0, 0)
theorem at_loop (s : ByteArray) (i m : Nat) (hm : i + m ≤ s.size) (hm4 : m ≤ 4) (hsz : s.size ≤ 1000000) : ∀ (d j n : Nat), j + d = m → n * 64 ^ d + 64 ^ d ≤ 2097152 → 
    Ev (fun k => spec_l2At.l0 k s (i : Int) (n : Int) (m : Int) (j : Int)) (finN s i (accN s i d j n) m) := by
  intro d
  induction d with
  | zero =>
    intro j n hj hn
    have hw : wrap64 ((i : Int) + (m : Int)) = ((i + m : Nat) : Int) := by unfold wrap64; omega
    obtain ⟨t, ht, he⟩ := enc_ev n (by simp at hn; omega)
    refine ⟨1, fun k hk => ?_⟩
    obtain ⟨k, rfl⟩ : ∃ m, k = m + 1 := ⟨k - 1, by omega⟩
    have hl := gB_list s i m hm
    simp only [spec_l2At.l0, hw, Int.toNat_natCast]
    show _ = some (if gN n = true ∧ encN n = (List.range m).map (gB s i) then ((n : Int), (m : Int)) else (0, 0))
    rw [if_neg (by omega), good_ev, Option.bind_some]
    by_cases hg : gN n = true
    · rw [if_pos hg, ht, Option.bind_some, if_pos (show (0 : Int) ≤ (i : Int) by omega), if_pos (by omega), if_pos (by omega)]
      by_cases hc : t.toList = (s.extract i (i + m)).toList
      · rw [if_pos hc, if_pos ⟨hg, by rw [← he, ← hl, hc]⟩]
      · rw [if_neg hc, if_neg (fun h => hc (nat_of_bytes (by rw [he, hl]; exact h.2)))]
    · rw [if_neg hg, if_neg (fun h => hg h.1)]
  | succ d ih =>
    intro j n hj hn
    have hb := gB_lt s i j
    have hpow : 64 ^ (d + 1) = 64 * 64 ^ d := by rw [Nat.pow_succ, Nat.mul_comm]
    have hn2 : (n * 64 + gB s i j % 64) * 64 ^ d + 64 ^ d ≤ 2097152 := by
      have h1 : (n * 64 + gB s i j % 64) * 64 ^ d + 64 ^ d = (n * 64 + gB s i j % 64 + 1) * 64 ^ d := by rw [Nat.add_mul (n * 64 + gB s i j % 64) 1, Nat.one_mul]
      have h2 : n * 64 ^ (d + 1) + 64 ^ (d + 1) = (n * 64 + 64) * 64 ^ d := by rw [hpow, Nat.add_mul, Nat.mul_assoc]
      rw [h1]
      rw [h2] at hn
      exact Nat.le_trans (Nat.mul_le_mul_right _ (by omega)) hn
    have hn3 : n ≤ 2097152 := by
      have h3 : n * 1 ≤ n * 64 ^ (d + 1) := Nat.mul_le_mul_left n (Nat.pow_pos (by decide))
      omega
    have ih' := ih (j + 1) (n * 64 + gB s i j % 64) (by omega) hn2
    clear ih hn hn2 hpow
    have hw1 : wrap64 ((i : Int) + (j : Int)) = ((i + j : Nat) : Int) := by unfold wrap64; omega
    have hw2 : wrap64 ((n : Int) * 64) = (n : Int) * 64 := by unfold wrap64; omega
    have hw3 : wrap64 ((j : Int) + 1) = ((j + 1 : Nat) : Int) := by unfold wrap64; omega
    have hbt := gB_bt s i j (by omega)
    have hand := dc_and8' (gB s i j) hb
    have hw4 : wrap64 ((gB s i j : Int) % 64) = ((gB s i j % 64 : Nat) : Int) := by unfold wrap64; omega
    have hor : Go.bits .or .i64 ((n : Int) * 64) ((gB s i j % 64 : Nat) : Int) = ((n * 64 + gB s i j % 64 : Nat) : Int) := by
      have hb6 : gB s i j % 64 < 64 := Nat.mod_lt _ (by decide)
      clear hw1 hw2 hw3 hbt hand hw4 ih'
      generalize gB s i j % 64 = b at hb6 ⊢
      rw [dc_or _ _ (by omega) (by omega) (by omega) (by omega)]
      simp
    have c1 : (j : Int) < (m : Int) := by omega
    have c2 : (0 : Int) ≤ ((i + j : Nat) : Int) := by omega
    have c3 : ((i + j : Nat) : Int) < (s.size : Int) := by omega
    refine Ev.step (fun k => ?_) ih'
    simp only [spec_l2At.l0, hw1, hw2, hw3, hbt, hand, hw4]
    rw [if_pos c1, if_pos c2, if_pos c3, hor]
theorem enc1 (v a : Nat) : encN v = [a] ↔ v < 128 ∧ a = v := by
  unfold encN
  repeat' split
  all_goals (simp; try omega)
theorem enc2 (v a b : Nat) : encN v = [a, b] ↔ 128 ≤ v ∧ v < 2048 ∧ a = 192 + v / 64 ∧ b = 128 + v % 64 := by
  unfold encN
  repeat' split
  all_goals (simp; try omega)
theorem enc3 (v a b c : Nat) : encN v = [a, b, c] ↔ 2048 ≤ v ∧ v < 65536 ∧ a = 224 + v / 4096 ∧ b = 128 + v / 64 % 64 ∧ c = 128 + v % 64 := by
  unfold encN
  repeat' split
  all_goals (simp; try omega)
theorem enc4 (v a b c d : Nat) : encN v = [a, b, c, d] ↔ 65536 ≤ v ∧ a = 240 + v / 262144 ∧ b = 128 + v / 4096 % 64 ∧ c = 128 + v / 64 % 64 ∧ d = 128 + v % 64 := by
  unfold encN
  repeat' split
  all_goals (simp; try omega)
theorem gN_iff (v : Nat) : gN v = true ↔ v ≤ 1114111 ∧ ¬ (55296 ≤ v ∧ v ≤ 57343) := by
  unfold gN
  simp
  omega
open Lib in
theorem dec_1 (N b0 b1 b2 b3 : Nat) (h : b0 < 128) : decodeN N b0 b1 b2 b3 = (b0, 1) := by
  unfold decodeN
  rw [if_pos h]
open Lib in
theorem dec_0 (N b0 b1 b2 b3 : Nat) (h : (128 ≤ b0 ∧ b0 ≤ 191) ∨ 248 ≤ b0) (hb : b0 < 256) : decodeN N b0 b1 b2 b3 = (65533, 1) := by
  unfold decodeN
  rw [if_neg (by omega), if_neg (by omega), if_neg (by omega), if_neg (by omega)]
open Lib in
theorem dec_2 (N b0 b1 b2 b3 : Nat) (h : 192 ≤ b0 ∧ b0 ≤ 223) : decodeN N b0 b1 b2 b3 = if (1 < N ∧ b1 / 64 = 2) ∧ 128 ≤ (b0 - 192) * 64 + b1 % 64 then ((b0 - 192) * 64 + b1 % 64, 2) else (65533, 1) := by
  have e : b0 % 32 = b0 - 192 := by omega
  unfold decodeN
  rw [e]
  rw [if_neg (show ¬ b0 < 128 by omega)]
  by_cases h1 : 1 < N ∧ b1 / 64 = 2
  · rw [if_pos ⟨by omega, h1⟩]
    by_cases h2 : 128 ≤ (b0 - 192) * 64 + b1 % 64
    · rw [if_pos h2, if_pos ⟨h1, h2⟩]
    · rw [if_neg h2, if_neg (fun h => h2 h.2)]
  · rw [if_neg (fun h => h1 h.2), if_neg (by omega), if_neg (by omega), if_neg (fun h => h1 h.1)]
open Lib in
theorem dec_3 (N b0 b1 b2 b3 v : Nat) (h : 224 ≤ b0 ∧ b0 ≤ 239) (hv : v = ((b0 - 224) * 64 + b1 % 64) * 64 + b2 % 64) : decodeN N b0 b1 b2 b3 =
    if ((1 < N ∧ b1 / 64 = 2) ∧ (2 < N ∧ b2 / 64 = 2)) ∧ (2048 ≤ v ∧ v ≤ 1114111 ∧ ¬ (55296 ≤ v ∧ v ≤ 57343)) then (v, 3) else (65533, 1) := by
  have e : b0 % 16 * 4096 + b1 % 64 * 64 + b2 % 64 = v := by omega
  unfold decodeN
  rw [e, if_neg (show ¬ b0 < 128 by omega), if_neg (show ¬ (b0 / 32 = 6 ∧ 1 < N ∧ b1 / 64 = 2) by omega)]
  clear hv e
  by_cases h1 : (1 < N ∧ b1 / 64 = 2) ∧ (2 < N ∧ b2 / 64 = 2)
  · rw [if_pos ⟨by omega, h1⟩]
    by_cases h2 : 2048 ≤ v ∧ v ≤ 1114111 ∧ ¬ (55296 ≤ v ∧ v ≤ 57343)
    · rw [if_pos (by omega), if_pos ⟨h1, h2⟩]
    · rw [if_neg (by omega), if_neg (fun h => h2 h.2)]
  · rw [if_neg (fun h => h1 h.2), if_neg (by omega), if_neg (fun h => h1 h.1)]
open Lib in
theorem dec_4 (N b0 b1 b2 b3 v : Nat) (h : 240 ≤ b0 ∧ b0 ≤ 247) (hv : v = (((b0 - 240) * 64 + b1 % 64) * 64 + b2 % 64) * 64 + b3 % 64) : decodeN N b0 b1 b2 b3 =
    if ((1 < N ∧ b1 / 64 = 2) ∧ (2 < N ∧ b2 / 64 = 2) ∧ (3 < N ∧ b3 / 64 = 2)) ∧ (65536 ≤ v ∧ v ≤ 1114111 ∧ ¬ (55296 ≤ v ∧ v ≤ 57343)) then (v, 4) else (65533, 1) := by
  have e : b0 % 8 * 262144 + b1 % 64 * 4096 + b2 % 64 * 64 + b3 % 64 = v := by omega
  unfold decodeN
  rw [e, if_neg (show ¬ b0 < 128 by omega), if_neg (show ¬ (b0 / 32 = 6 ∧ 1 < N ∧ b1 / 64 = 2) by omega), if_neg (show ¬ (b0 / 16 = 14 ∧ (1 < N ∧ b1 / 64 = 2) ∧ 2 < N ∧ b2 / 64 = 2) by omega)]
  clear hv e
  by_cases h1 : (1 < N ∧ b1 / 64 = 2) ∧ (2 < N ∧ b2 / 64 = 2) ∧ (3 < N ∧ b3 / 64 = 2)
  · rw [if_pos ⟨by omega, h1⟩]
    by_cases h2 : 65536 ≤ v ∧ v ≤ 1114111 ∧ ¬ (55296 ≤ v ∧ v ≤ 57343)
    · rw [if_pos (by omega), if_pos ⟨h1, h2⟩]
    · rw [if_neg (by omega), if_neg (fun h => h2 h.2)]
  · rw [if_neg (fun h => h1 h.2), if_neg (fun h => h1 h.1)]
theorem go_dec (s : ByteArray) (i : Nat) (h : i < s.size) : Lib.decodeGo (s.extract i s.size) = Lib.decodeN (s.size - i) (gB s i 0) (gB s i 1) (gB s i 2) (gB s i 3) := by
  have hz : (s.extract i s.size).size = s.size - i := by rw [ByteArray.size_extract]; omega
  unfold Lib.decodeGo
  rw [if_neg (by omega), Lib.decode_at, hz]
  rfl
/-- what the reference answers where the lead byte tells of m bytes -/
def ansN (s : ByteArray) (i m n : Nat) : Int × Int := if i + m ≤ s.size then finN s i (accN s i (m - 1) 1 n) m else (0, 0)
theorem at_j0 (s : ByteArray) (i m n : Nat) (hi : i < s.size) (h1 : 1 ≤ m) (hm4 : m ≤ 4) (hsz : s.size ≤ 1000000) (hn : n * 64 ^ (m - 1) + 64 ^ (m - 1) ≤ 2097152) :
    Ev (fun k => spec_l2At.j0 k s (i : Int) (n : Int) (m : Int)) (ansN s i m n) := by
  have hw : wrap64 ((i : Int) + (m : Int)) = ((i + m : Nat) : Int) := by unfold wrap64; omega
  unfold ansN
  by_cases h : i + m ≤ s.size
  · rw [if_pos h]
    refine Ev.step (fun k => ?_) (at_loop s i m h hm4 hsz (m - 1) 1 n (by omega) hn)
    simp only [spec_l2At.j0, hw]
    rw [if_neg (by omega)]
    rfl
  · rw [if_neg h]
    refine ⟨1, fun k hk => ?_⟩
    obtain ⟨k, rfl⟩ : ∃ m, k = m + 1 := ⟨k - 1, by omega⟩
    simp only [spec_l2At.j0, hw]
    rw [if_pos (by omega)]
/-- the two decoders agree at a place -/
theorem at_same (s : ByteArray) (i : Nat) (hi : i < s.size) (hsz : s.size ≤ 1000000) :
    ∃ n m : Nat, Lib.decodeGo (s.extract i s.size) = (n, m) ∧ 1 ≤ m ∧ n ≤ 1114111 ∧
      ((n = 65533 ∧ m < 2 ∧ Ev (fun k => spec_l2At.f k s (i : Int)) (0, 0)) ∨ (¬ (n = 65533 ∧ m < 2) ∧ i + m ≤ s.size ∧ Ev (fun k => spec_l2At.f k s (i : Int)) ((n : Int), (m : Int)))) := by
  rw [go_dec s i hi]
  have hb := gB_lt s i 0
  have hbt : wrap64 (bt s (i : Int)) = (gB s i 0 : Int) := by
    have := gB_bt s i 0 (by omega)
    rw [Nat.add_zero] at this
    rw [this]
    unfold wrap64
    omega
  have l1 : (List.range 1).map (gB s i) = [gB s i 0] := rfl
  have l2 : (List.range 2).map (gB s i) = [gB s i 0, gB s i 1] := rfl
  have l3 : (List.range 3).map (gB s i) = [gB s i 0, gB s i 1, gB s i 2] := rfl
  have l4 : (List.range 4).map (gB s i) = [gB s i 0, gB s i 1, gB s i 2, gB s i 3] := rfl
  have q1 := gB_lt s i 1
  have q2 := gB_lt s i 2
  have q3 := gB_lt s i 3
  have hf : ∀ (m n : Nat), Ev (fun k => spec_l2At.j0 k s (i : Int) (n : Int) (m : Int)) (ansN s i m n) → (∀ k, spec_l2At.f k s (i : Int) = spec_l2At.j0 k s (i : Int) (n : Int) (m : Int)) → Ev (fun k => spec_l2At.f k s (i : Int)) (ansN s i m n) := fun m n h e => Ev.congr e h
  by_cases r2 : 192 ≤ gB s i 0 ∧ gB s i 0 ≤ 223
  · have hj := at_j0 s i 2 (gB s i 0 - 192) hi (by omega) (by omega) hsz (by simp; omega)
    have he : ∀ k, spec_l2At.f k s (i : Int) = spec_l2At.j0 k s (i : Int) ((gB s i 0 - 192 : Nat) : Int) 2 := fun k => by
      unfold spec_l2At.f
      have hw : wrap64 ((gB s i 0 : Int) - 192) = ((gB s i 0 - 192 : Nat) : Int) := by unfold wrap64; omega
      rw [if_pos (by omega), if_pos (by omega), hbt, in_ev, Option.bind_some, decide_eq_true (show 192 ≤ (gB s i 0 : Int) ∧ (gB s i 0 : Int) ≤ 223 by omega), if_pos rfl, hw]
    have hE := hf 2 _ hj he
    rw [dec_2 _ _ _ _ _ r2]
    unfold ansN finN at hE
    rw [l2, show accN s i (2 - 1) 1 (gB s i 0 - 192) = (gB s i 0 - 192) * 64 + gB s i 1 % 64 from rfl] at hE
    obtain ⟨v, hv⟩ : ∃ v, (gB s i 0 - 192) * 64 + gB s i 1 % 64 = v := ⟨_, rfl⟩
    rw [hv] at hE ⊢
    by_cases hc : (1 < s.size - i ∧ gB s i 1 / 64 = 2) ∧ 128 ≤ v
    · rw [if_pos hc]
      rw [if_pos (show i + 2 ≤ s.size by omega), if_pos ⟨(gN_iff _).mpr (by omega), (enc2 _ _ _).mpr (by omega)⟩] at hE
      exact ⟨_, _, rfl, by omega, by omega, .inr ⟨by omega, by omega, hE⟩⟩
    · rw [if_neg hc]
      refine ⟨_, _, rfl, by omega, by omega, .inl ⟨rfl, by omega, ?_⟩⟩
      by_cases hz : i + 2 ≤ s.size
      · rw [if_pos hz, if_neg (fun h => hc (by have h2 := (enc2 _ _ _).mp h.2; omega))] at hE
        exact hE
      · rw [if_neg hz] at hE
        exact hE
  by_cases r3 : 224 ≤ gB s i 0 ∧ gB s i 0 ≤ 239
  · have hj := at_j0 s i 3 (gB s i 0 - 224) hi (by omega) (by omega) hsz (by simp; omega)
    have he : ∀ k, spec_l2At.f k s (i : Int) = spec_l2At.j0 k s (i : Int) ((gB s i 0 - 224 : Nat) : Int) 3 := fun k => by
      unfold spec_l2At.f
      have hw : wrap64 ((gB s i 0 : Int) - 224) = ((gB s i 0 - 224 : Nat) : Int) := by unfold wrap64; omega
      rw [if_pos (by omega), if_pos (by omega), hbt, in_ev, Option.bind_some, decide_eq_false (show ¬ (192 ≤ (gB s i 0 : Int) ∧ (gB s i 0 : Int) ≤ 223) by omega), if_neg (by decide), in_ev, Option.bind_some,
        decide_eq_true (show 224 ≤ (gB s i 0 : Int) ∧ (gB s i 0 : Int) ≤ 239 by omega), if_pos rfl, hw]
    have hE := hf 3 _ hj he
    obtain ⟨v, hv⟩ : ∃ v, ((gB s i 0 - 224) * 64 + gB s i 1 % 64) * 64 + gB s i 2 % 64 = v := ⟨_, rfl⟩
    rw [dec_3 _ _ _ _ _ v r3 hv.symm]
    unfold ansN finN at hE
    rw [l3, show accN s i (3 - 1) 1 (gB s i 0 - 224) = ((gB s i 0 - 224) * 64 + gB s i 1 % 64) * 64 + gB s i 2 % 64 from rfl, hv] at hE
    by_cases hc : ((1 < s.size - i ∧ gB s i 1 / 64 = 2) ∧ (2 < s.size - i ∧ gB s i 2 / 64 = 2)) ∧ (2048 ≤ v ∧ v ≤ 1114111 ∧ ¬ (55296 ≤ v ∧ v ≤ 57343))
    · rw [if_pos hc]
      rw [if_pos (show i + 3 ≤ s.size by omega), if_pos ⟨(gN_iff _).mpr (by omega), (enc3 _ _ _ _).mpr (by omega)⟩] at hE
      exact ⟨_, _, rfl, by omega, by omega, .inr ⟨by omega, by omega, hE⟩⟩
    · rw [if_neg hc]
      refine ⟨_, _, rfl, by omega, by omega, .inl ⟨rfl, by omega, ?_⟩⟩
      by_cases hz : i + 3 ≤ s.size
      · rw [if_pos hz, if_neg (fun h => hc (by have h1 := (gN_iff _).mp h.1; have h2 := (enc3 _ _ _ _).mp h.2; omega))] at hE
        exact hE
      · rw [if_neg hz] at hE
        exact hE
  by_cases r4 : 240 ≤ gB s i 0 ∧ gB s i 0 ≤ 247
  · have hj := at_j0 s i 4 (gB s i 0 - 240) hi (by omega) (by omega) hsz (by simp; omega)
    have he : ∀ k, spec_l2At.f k s (i : Int) = spec_l2At.j0 k s (i : Int) ((gB s i 0 - 240 : Nat) : Int) 4 := fun k => by
      unfold spec_l2At.f
      have hw : wrap64 ((gB s i 0 : Int) - 240) = ((gB s i 0 - 240 : Nat) : Int) := by unfold wrap64; omega
      rw [if_pos (by omega), if_pos (by omega), hbt, in_ev, Option.bind_some, decide_eq_false (show ¬ (192 ≤ (gB s i 0 : Int) ∧ (gB s i 0 : Int) ≤ 223) by omega), if_neg (by decide), in_ev, Option.bind_some,
        decide_eq_false (show ¬ (224 ≤ (gB s i 0 : Int) ∧ (gB s i 0 : Int) ≤ 239) by omega), if_neg (by decide), in_ev, Option.bind_some, decide_eq_true (show 240 ≤ (gB s i 0 : Int) ∧ (gB s i 0 : Int) ≤ 247 by omega), if_pos rfl, hw]
    have hE := hf 4 _ hj he
    obtain ⟨v, hv⟩ : ∃ v, (((gB s i 0 - 240) * 64 + gB s i 1 % 64) * 64 + gB s i 2 % 64) * 64 + gB s i 3 % 64 = v := ⟨_, rfl⟩
    rw [dec_4 _ _ _ _ _ v r4 hv.symm]
    unfold ansN finN at hE
    rw [l4, show accN s i (4 - 1) 1 (gB s i 0 - 240) = (((gB s i 0 - 240) * 64 + gB s i 1 % 64) * 64 + gB s i 2 % 64) * 64 + gB s i 3 % 64 from rfl, hv] at hE
    by_cases hc : ((1 < s.size - i ∧ gB s i 1 / 64 = 2) ∧ (2 < s.size - i ∧ gB s i 2 / 64 = 2) ∧ (3 < s.size - i ∧ gB s i 3 / 64 = 2)) ∧ (65536 ≤ v ∧ v ≤ 1114111 ∧ ¬ (55296 ≤ v ∧ v ≤ 57343))
    · rw [if_pos hc]
      rw [if_pos (show i + 4 ≤ s.size by omega), if_pos ⟨(gN_iff _).mpr (by omega), (enc4 _ _ _ _ _).mpr (by omega)⟩] at hE
      exact ⟨_, _, rfl, by omega, by omega, .inr ⟨by omega, by omega, hE⟩⟩
    · rw [if_neg hc]
      refine ⟨_, _, rfl, by omega, by omega, .inl ⟨rfl, by omega, ?_⟩⟩
      by_cases hz : i + 4 ≤ s.size
      · rw [if_pos hz, if_neg (fun h => hc (by have h1 := (gN_iff _).mp h.1; have h2 := (enc4 _ _ _ _ _).mp h.2; omega))] at hE
        exact hE
      · rw [if_neg hz] at hE
        exact hE
  have hn2 := decide_eq_false (show ¬ (192 ≤ (gB s i 0 : Int) ∧ (gB s i 0 : Int) ≤ 223) by omega)
  have hn3 := decide_eq_false (show ¬ (224 ≤ (gB s i 0 : Int) ∧ (gB s i 0 : Int) ≤ 239) by omega)
  have hn4 := decide_eq_false (show ¬ (240 ≤ (gB s i 0 : Int) ∧ (gB s i 0 : Int) ≤ 247) by omega)
  by_cases r1 : gB s i 0 < 128
  · have hj := at_j0 s i 1 (gB s i 0) hi (by omega) (by omega) hsz (by simp; omega)
    have he : ∀ k, spec_l2At.f k s (i : Int) = spec_l2At.j0 k s (i : Int) (gB s i 0 : Int) 1 := fun k => by
      unfold spec_l2At.f
      rw [if_pos (by omega), if_pos (by omega), hbt, in_ev, Option.bind_some, hn2, if_neg (by decide), in_ev, Option.bind_some, hn3, if_neg (by decide), in_ev, Option.bind_some, hn4, if_neg (by decide), if_neg (by omega)]
    have hE := hf 1 _ hj he
    rw [dec_1 _ _ _ _ _ r1]
    unfold ansN finN at hE
    rw [l1, show accN s i (1 - 1) 1 (gB s i 0) = gB s i 0 from rfl, if_pos (show i + 1 ≤ s.size by omega), if_pos ⟨(gN_iff _).mpr (by omega), (enc1 _ _).mpr (by omega)⟩] at hE
    exact ⟨_, _, rfl, by omega, by omega, .inr ⟨by omega, by omega, hE⟩⟩
  · rw [dec_0 _ _ _ _ _ (by omega) hb]
    refine ⟨_, _, rfl, by omega, by omega, .inl ⟨rfl, by omega, ?_⟩⟩
    refine Ev.congr (fun k => ?_) (Ev.now _)
    unfold spec_l2At.f
    rw [if_pos (by omega), if_pos (by omega), hbt, in_ev, Option.bind_some, hn2, if_neg (by decide), in_ev, Option.bind_some, hn3, if_neg (by decide), in_ev, Option.bind_some, hn4, if_neg (by decide), if_pos (by omega)]


theorem at_both (s : ByteArray) (i : Nat) (hi : i < s.size) (hsz : s.size ≤ 1000000) :
    (Ev (fun k => spec_l2At.f k s (i : Int)) (0, 0) ∧ impl_runeAt.f s (i : Int) = some (0, 0, false)) ∨
      ∃ v m : Nat, 1 ≤ m ∧ i + m ≤ s.size ∧ v ≤ 1114111 ∧ Ev (fun k => spec_l2At.f k s (i : Int)) ((v : Int), (m : Int)) ∧ impl_runeAt.f s (i : Int) = some ((v : Int), ((i + m : Nat) : Int), true) := by
  obtain ⟨v, m, hd, hm, hv, hc⟩ := at_same s i hi hsz
  have hr : impl_runeAt.f s (i : Int) = (if (v : Int) = 65533 then (if (m : Int) < 2 then (some (0, 0, false)) else (some (wrap64 (v : Int), wrap64 ((i : Int) + (m : Int)), true))) else (some (wrap64 (v : Int), wrap64 ((i : Int) + (m : Int)), true))) := by
    unfold impl_runeAt.f utf8_DecodeRuneInString.f
    rw [if_pos (by omega), if_pos (by omega), Option.bind_some, Int.toNat_natCast, hd]
  rcases hc with ⟨h65, hm2, hE⟩ | ⟨hne, hle, hE⟩
  · refine .inl ⟨hE, ?_⟩
    rw [hr, if_pos (by omega), if_pos (by omega)]
  · refine .inr ⟨v, m, hm, hle, hv, hE, ?_⟩
    have hwv : wrap64 (v : Int) = (v : Int) := by unfold wrap64; omega
    have hwi : wrap64 ((i : Int) + (m : Int)) = ((i + m : Nat) : Int) := by unfold wrap64; omega
    rw [hr, hwv, hwi]
    by_cases h65 : (v : Int) = 65533
    · rw [if_pos h65, if_neg (by omega)]
    · rw [if_neg h65]
theorem ru_spec (s : ByteArray) (hsz : s.size ≤ 240) : ∀ (d i : Nat) (acc : List Int), s.size ≤ i + d → i ≤ s.size → acc.length + (s.size - i) ≤ 1000 →
    ∃ r : List Int × Bool, (r.2 = true → acc.length ≤ r.1.length) ∧ Ev (fun k => spec_l2Runes.l0 k s acc (i : Int)) r := by
  intro d
  induction d with
  | zero =>
    intro i acc hi hle ha
    refine ⟨(acc, true), fun _ => Nat.le_refl _, Ev.step (f := fun _ => some _) (fun k => ?_) (Ev.now _)⟩
    simp only [spec_l2Runes.l0]
    rw [if_neg (by omega)]
  | succ d ih =>
    intro i acc hi hle ha
    by_cases hlt : i < s.size
    · rcases at_both s i hlt (by omega) with ⟨hE, _⟩ | ⟨v, m, hm, hle', hv, hE, _⟩
      · refine ⟨([], false), (fun h => by cases h), Ev.step (f := fun k => (spec_l2At.f k s (i : Int)).bind fun bt120 => (if bt120.2 = 0 then (some (([] : List Int), false)) else (if acc.length < 17592186044416 then (spec_l2Runes.l0 k s (acc ++ [bt120.1]) (wrap64 ((i : Int) + bt120.2))) else (none)))) (fun k => ?_) (Ev.bind hE ?_)⟩
        · simp only [spec_l2Runes.l0]
          rw [if_pos (by omega)]
        · simp only [if_true]
          exact Ev.now _
      · obtain ⟨r, hr, hR⟩ := ih (i + m) (acc ++ [(v : Int)]) (by omega) hle' (by simp; omega)
        have hwi : wrap64 ((i : Int) + (m : Int)) = ((i + m : Nat) : Int) := by unfold wrap64; omega
        refine ⟨r, fun h => by have := hr h; simp at this; omega, Ev.step (f := fun k => (spec_l2At.f k s (i : Int)).bind fun bt120 => (if bt120.2 = 0 then (some (([] : List Int), false)) else (if acc.length < 17592186044416 then (spec_l2Runes.l0 k s (acc ++ [bt120.1]) (wrap64 ((i : Int) + bt120.2))) else (none)))) (fun k => ?_) (Ev.bind hE ?_)⟩
        · simp only [spec_l2Runes.l0]
          rw [if_pos (by omega)]
        · rw [hwi]
          have c1 : ¬ ((m : Int) = 0) := by omega
          have c2 : acc.length < 17592186044416 := by omega
          simp only [if_neg c1, if_pos c2]
          exact hR
    · refine ⟨(acc, true), fun _ => Nat.le_refl _, Ev.step (f := fun _ => some _) (fun k => ?_) (Ev.now _)⟩
      simp only [spec_l2Runes.l0]
      rw [if_neg (by omega)]
/-- the answer where at most 60 runes may be -/
def ruOut (r : List Int × Bool) : List Int × Bool := if r.2 = true ∧ r.1.length ≤ 60 then r else ([], false)
theorem ru_both (s : ByteArray) (hsz : s.size ≤ 240) : ∀ (d i : Nat) (acc : List Int), s.size ≤ i + d → i ≤ s.size → acc.length ≤ 60 →
    ∃ r : List Int × Bool, Ev (fun k => spec_l2Runes.l0 k s acc (i : Int)) r ∧ Ev (fun k => impl_runesOf.l0 k s acc (i : Int)) (ruOut r) := by
  intro d
  induction d with
  | zero =>
    intro i acc hi hle ha
    refine ⟨(acc, true), Ev.step (f := fun _ => some _) (fun k => ?_) (Ev.now _), Ev.step (f := fun _ => some _) (fun k => ?_) (Ev.now _)⟩
    · simp only [spec_l2Runes.l0]
      rw [if_neg (by omega)]
    · rw [show ruOut (acc, true) = (acc, true) from if_pos ⟨rfl, ha⟩]
      simp only [impl_runesOf.l0]
      rw [if_neg (by omega)]
  | succ d ih =>
    intro i acc hi hle ha
    by_cases hlt : i < s.size
    · rcases at_both s i hlt (by omega) with ⟨hE, hI⟩ | ⟨v, m, hm, hle', hv, hE, hI⟩
      · refine ⟨([], false), Ev.step (f := fun k => (spec_l2At.f k s (i : Int)).bind fun bt120 => (if bt120.2 = 0 then (some (([] : List Int), false)) else (if acc.length < 17592186044416 then (spec_l2Runes.l0 k s (acc ++ [bt120.1]) (wrap64 ((i : Int) + bt120.2))) else (none)))) (fun k => ?_) (Ev.bind hE ?_), Ev.step (f := fun _ => some _) (fun k => ?_) (Ev.now _)⟩
        · simp only [spec_l2Runes.l0]
          rw [if_pos (by omega)]
        · simp only [if_true]
          exact Ev.now _
        · rw [show ruOut ([], false) = ([], false) from if_neg (fun h => by cases h.1)]
          simp only [impl_runesOf.l0]
          rw [if_pos (by omega), hI, Option.bind_some, if_neg (by decide)]
      · have hwi : wrap64 ((i : Int) + (m : Int)) = ((i + m : Nat) : Int) := by unfold wrap64; omega
        have c1 : ¬ ((m : Int) = 0) := by omega
        have c2 : acc.length < 17592186044416 := by omega
        have hS : ∀ r, Ev (fun k => spec_l2Runes.l0 k s (acc ++ [(v : Int)]) ((i + m : Nat) : Int)) r → Ev (fun k => spec_l2Runes.l0 k s acc (i : Int)) r := fun r hR => by
          refine Ev.step (f := fun k => (spec_l2At.f k s (i : Int)).bind fun bt120 => (if bt120.2 = 0 then (some (([] : List Int), false)) else (if acc.length < 17592186044416 then (spec_l2Runes.l0 k s (acc ++ [bt120.1]) (wrap64 ((i : Int) + bt120.2))) else (none)))) (fun k => ?_) (Ev.bind hE ?_)
          · simp only [spec_l2Runes.l0]
            rw [if_pos (by omega)]
          · rw [hwi]
            simp only [if_neg c1, if_pos c2]
            exact hR
        by_cases h60 : acc.length = 60
        · obtain ⟨r, hr, hR⟩ := ru_spec s hsz s.size (i + m) (acc ++ [(v : Int)]) (by omega) hle' (by simp; omega)
          have ho : ruOut r = ([], false) := by
            unfold ruOut
            rw [if_neg]
            rintro ⟨h1, h2⟩
            have := hr h1
            simp at this
            omega
          refine ⟨r, hS r hR, Ev.step (f := fun _ => some _) (fun k => ?_) (Ev.now _)⟩
          rw [ho]
          simp only [impl_runesOf.l0]
          rw [if_pos (by omega), hI, Option.bind_some, if_pos rfl, if_pos (by omega)]
        · obtain ⟨r, hR, hI2⟩ := ih (i + m) (acc ++ [(v : Int)]) (by omega) hle' (by simp; omega)
          refine ⟨r, hS r hR, Ev.step (fun k => ?_) hI2⟩
          simp only [impl_runesOf.l0]
          rw [if_pos (by omega), hI, Option.bind_some, if_pos rfl, if_neg (by omega), if_pos c2]
    · refine ⟨(acc, true), Ev.step (f := fun _ => some _) (fun k => ?_) (Ev.now _), Ev.step (f := fun _ => some _) (fun k => ?_) (Ev.now _)⟩
      · simp only [spec_l2Runes.l0]
        rw [if_neg (by omega)]
      · rw [show ruOut (acc, true) = (acc, true) from if_pos ⟨rfl, ha⟩]
        simp only [impl_runesOf.l0]
        rw [if_neg (by omega)]
/-- both tell the same runes, at most 60, of every text -/
theorem runes_ev (s : ByteArray) (hs : s.size ≤ 1048576) : ∃ r : List Int × Bool, r.1.length ≤ 60 ∧ (r.2 = false → r.1 = []) ∧ Ev (fun k => spec_RunesOf.f k s) r ∧ Ev (fun k => impl_RunesOf.f k s) r := by
  by_cases hl : s.size ≤ 240
  · obtain ⟨r, h1, h2⟩ := ru_both s hl s.size 0 [] (by omega) (by omega) (by simp)
    have h1' : Ev (fun k => spec_l2Runes.f k s) r := Ev.congr (fun _ => rfl) h1
    have h2' : Ev (fun k => impl_runesOf.f k s) (ruOut r) := Ev.congr (fun _ => rfl) h2
    have hlong : spec_l2Long.f s = some true := by unfold spec_l2Long.f; rw [decide_eq_true (by omega)]
    refine ⟨ruOut r, ?_, ?_, ?_, ?_⟩
    · unfold ruOut
      split
      · exact (by assumption : _ ∧ _).2
      · simp
    · unfold ruOut
      split
      · intro h
        rename_i h'
        rw [h'.1] at h
        cases h
      · exact fun _ => rfl
    · refine Ev.congr (fun k => by unfold spec_RunesOf.f; rw [hlong, Option.bind_some, if_pos rfl]) (Ev.bind h1' ?_)
      unfold ruOut
      cases hb : r.2 with
      | false =>
        rw [if_neg (by simp), if_neg (by simp)]
        exact Ev.now _
      | true =>
        simp only [if_true, true_and]
        by_cases h60 : r.1.length ≤ 60
        · rw [if_neg (by omega), if_pos h60]
          have : (r.1, true) = r := by rw [← hb]
          rw [this]
          exact Ev.now _
        · rw [if_pos (by omega), if_neg h60]
          exact Ev.now _
    · refine Ev.congr (fun k => by unfold impl_RunesOf.f; rw [if_neg (by omega)]) (Ev.bind h2' ?_)
      exact Ev.now _
  · have hlong : spec_l2Long.f s = some false := by unfold spec_l2Long.f; rw [decide_eq_false (by omega)]
    refine ⟨([], false), by simp, fun _ => rfl, Ev.congr (fun k => by unfold spec_RunesOf.f; rw [hlong, Option.bind_some, if_neg (by decide)]) (Ev.now _), Ev.congr (fun k => by unfold impl_RunesOf.f; rw [if_pos (by omega)]) (Ev.now _)⟩


theorem pairs_same : ∀ (k : Nat) (a b : List Int) (n i : Int), impl_pairsOf.l0 k a b n i = spec_l2Pairs.l0 k a b n i := by
  intro k
  induction k with
  | zero => intro a b n i; rfl
  | succ k ih => intro a b n i; simp only [impl_pairsOf.l0, spec_l2Pairs.l0, ih]

theorem pairs_loop (l : List Int) (hl : l.length ≤ 2000000) : ∀ (d i : Nat) (a : List Int), i + d = l.length → a.length ≤ 2 * i → ∃ r : List Int, r.length ≤ 2 * l.length ∧ Ev (fun k => spec_l2Pairs.l0 k a l (l.length : Int) (i : Int)) r := by
  intro d
  induction d with
  | zero =>
    intro i a hi ha
    refine ⟨a, by omega, Ev.step (f := fun _ => some _) (fun k => ?_) (Ev.now _)⟩
    simp only [spec_l2Pairs.l0]
    rw [if_neg (by omega)]
  | succ d ih =>
    intro i a hi ha
    have c1 : (i : Int) < (l.length : Int) := by omega
    have c2 : (0 : Int) ≤ (i : Int) := by omega
    have hw : wrap64 ((i : Int) + 1) = ((i + 1 : Nat) : Int) := by unfold wrap64; omega
    have hlen : a.length < 17592186044416 := by omega
    by_cases h : rd l (i : Int) < 65536
    · obtain ⟨r, hr, hs⟩ := ih (i + 1) (a ++ [rd l (i : Int)]) (by omega) (by simp; omega)
      refine ⟨r, hr, Ev.step (fun k => ?_) hs⟩
      simp only [spec_l2Pairs.l0]
      rw [if_pos c1, if_pos c2, if_pos c1, if_pos h, if_pos hlen, hw]
    · obtain ⟨r, hr, hs⟩ := ih (i + 1) (a ++ [wrap64 (55296 + ((wrap64 ((rd l (i : Int)) - 65536)) / 1024)), wrap64 (56320 + (Go.bits .and .i64 (wrap64 ((rd l (i : Int)) - 65536)) 1023))]) (by omega) (by simp; omega)
      refine ⟨r, hr, Ev.step (fun k => ?_) hs⟩
      simp only [spec_l2Pairs.l0]
      rw [if_pos c1, if_pos c2, if_pos c1, if_neg h, Option.bind_some, if_pos (by simp; omega), hw]

theorem pairs_ev (l : List Int) (hl : l.length ≤ 2000000) : ∃ r : List Int, r.length ≤ 2 * l.length ∧ Ev (fun k => spec_l2Pairs.f k l) r ∧ Ev (fun k => impl_pairsOf.f k l) r := by
  obtain ⟨r, hr, hs⟩ := pairs_loop l hl l.length 0 [] (by omega) (by simp)
  refine ⟨r, hr, hs, Ev.congr (fun k => ?_) hs⟩
  unfold impl_pairsOf.f
  rw [pairs_same]
  rfl


theorem cmp_ev (a b : Int) : cmp_Compare_int.f a b = some (if a < b then -1 else if a > b then 1 else 0) := by
  unfold cmp_Compare_int.f cmp_isNaN_int.f
  rw [bne_self_eq_false, bne_self_eq_false, Option.bind_some, Option.bind_some, if_neg (by decide), if_neg (by decide)]
  by_cases h1 : a < b
  · rw [if_pos h1, if_pos h1]
  · rw [if_neg h1, if_neg h1]
    by_cases h2 : a > b
    · rw [if_pos h2, if_pos h2]
    · rw [if_neg h2, if_neg h2]
theorem less_loop (a b : List Int) (ha : a.length ≤ 1000) : ∀ (d i : Nat), i + d = a.length →
    ∃ c : Int, Ev (fun k => spec_l2Less.l0 k a b a (a.length : Int) (i : Int)) (decide (c < 0)) ∧ Ev (fun k => slices_Compare_int_int.l0 k a b a (a.length : Int) (i : Int)) c := by
  intro d
  induction d with
  | zero =>
    intro i hi
    refine ⟨if (a.length : Int) < (b.length : Int) then -1 else 0, Ev.step (f := fun _ => some _) (fun k => ?_) (Ev.now _), Ev.step (f := fun _ => some _) (fun k => ?_) (Ev.now _)⟩
    · simp only [spec_l2Less.l0]
      rw [if_neg (by omega)]
      by_cases h : (a.length : Int) < (b.length : Int)
      · rw [decide_eq_true h, if_pos h]; rfl
      · rw [decide_eq_false h, if_neg h]; rfl
    · simp only [slices_Compare_int_int.l0]
      rw [if_neg (by omega)]
      by_cases h : (a.length : Int) < (b.length : Int)
      · rw [if_pos h, if_pos h]
      · rw [if_neg h, if_neg h]
  | succ d ih =>
    intro i hi
    have c1 : (i : Int) < (a.length : Int) := by omega
    have c2 : (0 : Int) ≤ (i : Int) := by omega
    have hw : wrap64 ((i : Int) + 1) = ((i + 1 : Nat) : Int) := by unfold wrap64; omega
    by_cases hbl : i < b.length
    · have c3 : ¬ ((i : Int) ≥ (b.length : Int)) := by omega
      have c4 : (i : Int) < (b.length : Int) := by omega
      generalize hx : rd a (i : Int) = x
      generalize hy : rd b (i : Int) = y
      have hS : ∀ r, Ev (fun k => spec_l2Less.j1 k a b (i : Int) x a (a.length : Int) (i : Int) (decide (x > y))) r → Ev (fun k => spec_l2Less.l0 k a b a (a.length : Int) (i : Int)) r := fun r hr => by
        refine Ev.step (fun k => ?_) hr
        simp only [spec_l2Less.l0]
        rw [if_pos c1, if_pos c2, if_pos c1, if_neg c3, if_pos c4, hx, hy]
      have hC : ∀ k, slices_Compare_int_int.l0 (k + 1) a b a (a.length : Int) (i : Int) = (if (if x < y then (-1 : Int) else if x > y then 1 else 0) = 0 then (slices_Compare_int_int.l0 k a b a (a.length : Int) (wrap64 ((i : Int) + 1))) else (some (if x < y then (-1 : Int) else if x > y then 1 else 0))) := fun k => by
        simp only [slices_Compare_int_int.l0]
        rw [if_pos c1, if_pos c2, if_pos c1, if_neg c3, if_pos c4, hx, hy, cmp_ev, Option.bind_some]
      by_cases h1 : x < y
      · refine ⟨-1, hS _ (Ev.step (f := fun _ => some _) (fun k => ?_) (Ev.now _)), Ev.step (f := fun _ => some _) (fun k => ?_) (Ev.now _)⟩
        · simp only [spec_l2Less.j1]
          rw [decide_eq_false (show ¬ x > y by omega), if_neg (by decide), if_pos c2, if_pos c4, hy, if_pos h1]
          rfl
        · rw [hC, if_pos h1, if_neg (by decide)]
      · by_cases h2 : x > y
        · refine ⟨1, hS _ (Ev.step (f := fun _ => some _) (fun k => ?_) (Ev.now _)), Ev.step (f := fun _ => some _) (fun k => ?_) (Ev.now _)⟩
          · simp only [spec_l2Less.j1]
            rw [decide_eq_true h2, if_pos rfl]
            rfl
          · rw [hC, if_neg h1, if_pos h2, if_neg (by decide)]
        · obtain ⟨c, hs, hc⟩ := ih (i + 1) (by omega)
          refine ⟨c, hS _ (Ev.step (fun k => ?_) hs), Ev.step (fun k => ?_) hc⟩
          · simp only [spec_l2Less.j1]
            rw [decide_eq_false h2, if_neg (by decide), if_pos c2, if_pos c4, hy, if_neg h1, hw]
          · rw [hC, if_neg h1, if_neg h2, if_pos rfl, hw]
    · have c3 : (i : Int) ≥ (b.length : Int) := by omega
      refine ⟨1, Ev.step (f := fun k => spec_l2Less.j1 k a b (i : Int) (rd a (i : Int)) a (a.length : Int) (i : Int) true) (fun k => ?_) (Ev.step (f := fun _ => some _) (fun k => ?_) (Ev.now _)), Ev.step (f := fun _ => some _) (fun k => ?_) (Ev.now _)⟩
      · simp only [spec_l2Less.l0]
        rw [if_pos c1, if_pos c2, if_pos c1, if_pos c3]
      · simp only [spec_l2Less.j1]
        rw [if_pos trivial]
        rfl
      · simp only [slices_Compare_int_int.l0]
        rw [if_pos c1, if_pos c2, if_pos c1, if_pos c3]

theorem lp_both (s t : ByteArray) (hs : s.size ≤ 1048576) (ht : t.size ≤ 1048576) : ∃ r : Bool × Bool, Ev (fun k => spec_LessPairs.f k s t) r ∧ Ev (fun k => impl_LessPairs.f k s t) r := by
  obtain ⟨⟨x, bx⟩, hx, _, sx, ix⟩ := runes_ev s hs
  obtain ⟨⟨y, by_⟩, hy, _, sy, iy⟩ := runes_ev t ht
  replace hx : x.length ≤ 60 := hx
  replace hy : y.length ≤ 60 := hy
  have bads : ∀ x y, Ev (fun k => spec_LessPairs.j0 k x y true) (false, false) := fun x y => Ev.step (f := fun _ => some _) (fun k => by simp only [spec_LessPairs.j0]; rw [if_pos trivial]) (Ev.now _)
  have badi : ∀ x y, Ev (fun k => impl_LessPairs.j0 k x y true) (false, false) := fun x y => Ev.step (f := fun _ => some _) (fun k => by simp only [impl_LessPairs.j0]; rw [if_pos trivial]) (Ev.now _)
  cases bx with
  | false =>
    refine ⟨(false, false), Ev.congr (fun k => by unfold spec_LessPairs.f; rfl) (Ev.bind sx (Ev.bind sy ?_)), Ev.congr (fun k => by unfold impl_LessPairs.f; rfl) (Ev.bind ix (Ev.bind iy ?_))⟩
    · simp only [Bool.false_eq_true, if_false]
      exact bads _ _
    · simp only [Bool.false_eq_true, if_false]
      exact badi _ _
  | true =>
    cases by_ with
    | false =>
      refine ⟨(false, false), Ev.congr (fun k => by unfold spec_LessPairs.f; rfl) (Ev.bind sx (Ev.bind sy ?_)), Ev.congr (fun k => by unfold impl_LessPairs.f; rfl) (Ev.bind ix (Ev.bind iy ?_))⟩
      · simp only [if_true, Bool.not_false]
        exact bads _ _
      · simp only [if_true, Bool.not_false]
        exact badi _ _
    | true =>
      obtain ⟨px, hpx, spx, ipx⟩ := pairs_ev x (by omega)
      obtain ⟨py, hpy, spy, ipy⟩ := pairs_ev y (by omega)
      obtain ⟨c, hl, hc⟩ := less_loop px py (by omega) px.length 0 (by omega)
      have hl' : Ev (fun k => spec_l2Less.f k px py) (decide (c < 0)) := Ev.congr (fun _ => rfl) hl
      have hc' : Ev (fun k => slices_Compare_int_int.f k px py) c := Ev.congr (fun _ => rfl) hc
      refine ⟨(decide (c < 0), true), Ev.congr (fun k => by unfold spec_LessPairs.f; rfl) (Ev.bind sx (Ev.bind sy ?_)), Ev.congr (fun k => by unfold impl_LessPairs.f; rfl) (Ev.bind ix (Ev.bind iy ?_))⟩
      · simp only [if_true, Bool.not_true]
        refine Ev.step (fun k => by rw [spec_LessPairs.j0, if_neg (by decide)]) (Ev.bind spx (Ev.bind spy (Ev.bind hl' ?_)))
        exact Ev.now _
      · simp only [if_true, Bool.not_true]
        refine Ev.step (fun k => by rw [impl_LessPairs.j0, if_neg (by decide)]) (Ev.bind ipx (Ev.bind ipy (Ev.bind hc' ?_)))
        exact Ev.now _

theorem FnExactLessPairs : laws_FnExactLessPairs.Pure := by
  intro s t _ _
  by_cases h : (s.size : Int) > 1048576
  · exact ⟨0, by unfold laws_FnExactLessPairs.f; rw [if_pos h]⟩
  by_cases h' : (t.size : Int) > 1048576
  · exact ⟨0, by unfold laws_FnExactLessPairs.f; rw [if_neg h, if_pos h']⟩
  obtain ⟨r, h1, h2⟩ := lp_both s t (by omega) (by omega)
  refine Ev.rounds (Ev.congr (fun k => by unfold laws_FnExactLessPairs.f; rw [if_neg h, if_neg h']) (Ev.bind h1 (Ev.bind h2 ?_)))
  simp only [bne_self_eq_false, Bool.false_eq_true, if_false]
  exact Ev.now _

end Go.Proofs.YtbacmgbpjcnknaaDoor.Pure
