/- The law FnExactOfArmor answers true for every text. No condition. -/
import Derived.Test.YtmajmplhojlhbaaDoorSFnExactOfArmorx5
import Derived.Laws.BitsLemmas
import Derived.Laws.Bits64
import Derived.Lib.CountLaws
namespace Go.Proofs.YtmajmplhojlhbaaDoor.Pure
open Go.RowKit Go.Proofs.YtmajmplhojlhbaaDoor.SFnExactOfArmor Go.Proofs.YtmajmplhojlhbaaDoorW.PrintWords Go.Proofs.YtmajmplhojlhbaaDoorW.PrintLast Go.Proofs.YtmajmplhojlhbaaDoorW.PrintMore

theorem nums_str (l : List UInt8) : strOfNums (l.map fun b => (b.toNat : Int)) = ⟨l.toArray⟩ := by
  unfold strOfNums
  rw [List.map_map]
  congr 2
  have e : ((fun n : Int => UInt8.ofNat n.toNat) ∘ fun b : UInt8 => (b.toNat : Int)) = id := by
    funext b
    simp
  rw [e, List.map_id]


section
variable (s : ByteArray) (hs : s.size ≤ 1000000) (i : Nat) (hi : i < s.size)

/-- the group at i -/
def grp (s : ByteArray) (i : Nat) : List UInt8 := (s.data.toList.drop i).take 3

theorem grp_length : (grp s i).length = min 3 (s.size - i) := by
  have := Lib.size_eq s
  unfold grp
  rw [List.length_take, List.length_drop, ← this]

theorem grp_at (j : Nat) (hj : j < 3) (hij : i + j < s.size) : bt s ((i + j : Nat) : Int) = (((grp s i).getD j 0).toNat : Int) := by
  rw [sg_bt s (i + j) hij]
  unfold grp
  rw [List.getD_eq_getElem?_getD, List.getD_eq_getElem?_getD, List.getElem?_take_of_lt hj, List.getElem?_drop]

theorem sgN_lt2 (g : List UInt8) (j : Nat) (hj : j ≤ 2) : sgN g j < 65536 := by
  have h1 := sgN_lt g j
  have h2 : 256 ^ j ≤ 256 ^ 2 := Nat.pow_le_pow_right (by omega) hj
  exact Nat.lt_of_lt_of_le h1 h2
theorem sgN_lt3 (g : List UInt8) : sgN g 3 < 16777216 := sgN_lt g 3

include hs hi in
theorem l1_run (acc : List Int) (r : ByteArray) (h : Ev (fun k => spec_l3Signs.l2 k s acc (i : Int) (sgN (grp s i) 3 : Int) ((grp s i).length : Int) 0) r) :
    ∀ (d j : Nat), j + d = 3 → Ev (fun k => spec_l3Signs.l1 k s acc (i : Int) (sgN (grp s i) j : Int) ((grp s i).length : Int) (j : Int)) r := by
  intro d
  induction d with
  | zero =>
    intro j hj
    obtain rfl : j = 3 := by omega
    refine Ev.step (fun k => ?_) h
    simp only [spec_l3Signs.l1]
    rw [if_neg (by omega)]
  | succ d ih =>
    intro j hj
    have hl := grp_length s i
    have hnb := sgN_lt2 (grp s i) j (by omega)
    have h' := ih (j + 1) (by omega)
    rw [sgN] at h'
    clear ih h
    have hat := grp_at s i j (by omega)
    generalize (grp s i).getD j 0 = B at h' hat
    generalize sgN (grp s i) j = n at h' hnb ⊢
    generalize (grp s i).length = L at h' hl ⊢
    have hwj : wrap64 ((j : Int) + 1) = ((j + 1 : Nat) : Int) := by unfold wrap64; omega
    have hwm : wrap64 ((n : Int) * 256) = (n : Int) * 256 := by unfold wrap64; omega
    refine Ev.step (fun k => ?_) h'
    simp only [spec_l3Signs.l1, hwm, hwj]
    have c3 : (j : Int) < 3 := by omega
    rw [if_pos c3]
    by_cases hjm : j < L
    · have hwi : wrap64 ((i : Int) + (j : Int)) = ((i + j : Nat) : Int) := by unfold wrap64; omega
      have hb := hat (by omega)
      have hB := B.toNat_lt
      have hwb : wrap64 (bt s ((i + j : Nat) : Int)) = (B.toNat : Int) := by rw [hb]; unfold wrap64; omega
      have c4 : (j : Int) < (L : Int) := by omega
      have c5 : (0 : Int) ≤ ((i + j : Nat) : Int) := by omega
      have c6 : ((i + j : Nat) : Int) < (s.size : Int) := by omega
      rw [if_pos c4, hwi, if_pos c5, if_pos c6, hwb, sg_or _ _ (by omega) (by omega) (by omega) (by omega), if_pos hjm]
      have e : (n : Int) * 256 + (B.toNat : Int) = ((n * 256 + B.toNat : Nat) : Int) := by simp
      rw [e]
    · have c4 : ¬ (j : Int) < (L : Int) := by omega
      have e : (n : Int) * 256 = ((n * 256 + 0 : Nat) : Int) := by simp
      rw [if_neg c4, if_neg hjm, e]

omit hs hi in
theorem l2_sh (j : Nat) (hj : j < 4) : IntKind.u64.wrap (wrap64 (18 - wrap64 (6 * (j : Int)))) = ((18 - 6 * j : Nat) : Int) := by
  have h6 : wrap64 (6 * (j : Int)) = 6 * (j : Int) := by unfold wrap64; omega
  have h7 : wrap64 (18 - 6 * (j : Int)) = 18 - 6 * (j : Int) := by unfold wrap64; omega
  rw [h6, h7, IntKind.wrap_u64]
  omega
omit hs hi in
theorem l2_shr (n j : Nat) (hj : j < 4) : shr .i64 (n : Int) ((18 - 6 * j : Nat) : Int) = ((n / 2 ^ (18 - 6 * j) : Nat) : Int) := by
  unfold shr
  rw [Int.toNat_natCast, Nat.min_eq_left (show 18 - 6 * j ≤ IntKind.i64.bits by show 18 - 6 * j ≤ 64; omega)]
  simp
omit hs hi in
theorem l2_and (z : Nat) (hz : z < 16777216) : Go.bits .and .i64 (z : Int) 63 = ((z % 64 : Nat) : Int) := by
  rw [sg_and _ (by omega) (by omega)]
  simp
omit hs hi in
theorem l2_step (j : Nat) (hj : j < 4) (A : List Int) (hlen : A.length < 140737488355328) (n : Nat) (hn : n < 16777216) (L : Nat) (r : ByteArray)
    (h' : Ev (fun k => spec_l3Signs.l2 k s (A ++ [((if L < j then 61 else sgT (n / 2 ^ (18 - 6 * j) % 64) : UInt8).toNat : Int)]) (i : Int) (n : Int) (L : Int) ((j + 1 : Nat) : Int)) r) (hdl : n / 2 ^ (18 - 6 * j) ≤ n) :
    Ev (fun k => spec_l3Signs.l2 k s A (i : Int) (n : Int) (L : Int) (j : Int)) r := by
  have hwj : wrap64 ((j : Int) + 1) = ((j + 1 : Nat) : Int) := by unfold wrap64; omega
  have c3 : (j : Int) < 4 := by omega
  by_cases hjm : L < j
  · have c4 : ¬ (j : Int) ≤ (L : Int) := by omega
    rw [if_pos hjm] at h'
    refine Ev.step (fun k => ?_) h'
    simp only [spec_l3Signs.l2, hwj]
    rw [if_pos c3, if_neg c4, if_pos hlen]
    rfl
  · have c4 : (j : Int) ≤ (L : Int) := by omega
    rw [if_neg hjm] at h'
    have c5 : (0 : Int) ≤ ((18 - 6 * j : Nat) : Int) := by omega
    have hz : n / 2 ^ (18 - 6 * j) < 16777216 := Nat.lt_of_le_of_lt hdl hn
    have hsh := l2_sh j hj
    have hshr := l2_shr n j hj
    generalize n / 2 ^ (18 - 6 * j) = z at h' hz hshr
    have ha := l2_and z hz
    have c6 : (0 : Int) ≤ ((z % 64 : Nat) : Int) := Int.natCast_nonneg _
    have c7 : ((z % 64 : Nat) : Int) < 64 := by clear hsh hshr ha h'; omega
    have hlet := sg_letter_at _ c6 c7
    refine Ev.step (fun k => ?_) h'
    simp only [spec_l3Signs.l2, hwj]
    rw [if_pos c3, if_pos c4, hsh, if_pos c5, hshr, ha, if_pos c6, if_pos c7, if_pos hlen, hlet, Int.toNat_natCast]

include hs hi in
theorem l2_run (acc : List Int) (hacc : acc.length ≤ 5000000) (r : ByteArray) (h : Ev (fun k => spec_l3Signs.l0 k s (acc ++ (sgG (grp s i)).map fun b => (b.toNat : Int)) ((i + 3 : Nat) : Int)) r) :
    ∀ (d j : Nat), j + d = 4 → Ev (fun k => spec_l3Signs.l2 k s (acc ++ ((sgG (grp s i)).take j).map fun b => (b.toNat : Int)) (i : Int) (sgN (grp s i) 3 : Int) ((grp s i).length : Int) (j : Int)) r := by
  intro d
  induction d with
  | zero =>
    intro j hj
    obtain rfl : j = 4 := by omega
    have hwi : wrap64 ((i : Int) + 3) = ((i + 3 : Nat) : Int) := by unfold wrap64; omega
    refine Ev.step (fun k => ?_) h
    simp only [spec_l3Signs.l2]
    rw [if_neg (by omega), hwi]
    rfl
  | succ d ih =>
    intro j hj
    have hnb := sgN_lt3 (grp s i)
    have hlen : (acc ++ ((sgG (grp s i)).take j).map fun b => (b.toNat : Int)).length < 140737488355328 := by
      simp [sgG]
      omega
    have h' := ih (j + 1) (by omega)
    rw [sg_take _ j (by omega), List.map_append, ← List.append_assoc] at h'
    clear ih h
    generalize acc ++ ((sgG (grp s i)).take j).map (fun b => (b.toNat : Int)) = A at h' hlen ⊢
    have hc : sgC (grp s i) j = (if (grp s i).length < j then 61 else sgT (sgN (grp s i) 3 / 2 ^ (18 - 6 * j) % 64)) := rfl
    rw [hc] at h'
    clear hc
    have hdl : sgN (grp s i) 3 / 2 ^ (18 - 6 * j) ≤ sgN (grp s i) 3 := Nat.div_le_self _ _
    exact l2_step s i j (by omega) A hlen (sgN (grp s i) 3) hnb (grp s i).length r h' hdl
end

theorem signs_loop (s : ByteArray) (hs : s.size ≤ 1000000) : ∀ (d i : Nat) (A : List UInt8), s.size ≤ i + d → i ≤ s.size + 3 → A ++ sgE (s.data.toList.drop i) = sgE s.data.toList →
    Ev (fun k => spec_l3Signs.l0 k s (A.map fun b => (b.toNat : Int)) (i : Int)) (⟨(sgE s.data.toList).toArray⟩ : ByteArray) := by
  intro d
  induction d using Nat.strongRecOn with
  | _ d ih =>
    intro i A hd hi hA
    have hsl := Lib.size_eq s
    by_cases hlt : i < s.size
    · have hne : s.data.toList.drop i ≠ [] := by
        intro h
        have := congrArg List.length h
        rw [List.length_drop, List.length_nil] at this
        omega
      have hstep := sgE_step _ hne
      rw [List.drop_drop] at hstep
      have hlenA : A.length ≤ 4000000 := by
        have h1 := congrArg List.length hA
        rw [List.length_append] at h1
        have h2 := sgE_length s.data.toList
        omega
      have hl := grp_length s i
      have h0 := ih (d - 3) (by omega) (i + 3) (A ++ sgG (grp s i)) (by omega) (by omega) (by
        rw [List.append_assoc]
        show A ++ (sgG ((s.data.toList.drop i).take 3) ++ _) = _
        rw [← hstep]
        exact hA)
      rw [List.map_append] at h0
      have h2 := l2_run s hs i hlt (A.map fun b => (b.toNat : Int)) (by simp; omega) _ h0 4 0 (by omega)
      rw [List.take_zero, List.map_nil, List.append_nil] at h2
      have h1 := l1_run s hs i hlt (A.map fun b => (b.toNat : Int)) _ h2 3 0 (by omega)
      refine Ev.step (fun k => ?_) h1
      simp only [spec_l3Signs.l0]
      have hw : wrap64 ((s.size : Int) - (i : Int)) = (s.size : Int) - (i : Int) := by unfold wrap64; omega
      rw [if_pos (by omega), hw]
      unfold spec_l1Least.f
      by_cases h3 : (3 : Int) < (s.size : Int) - (i : Int)
      · rw [if_pos h3, Option.bind_some]
        have e : ((grp s i).length : Int) = 3 := by omega
        rw [e]
        rfl
      · rw [if_neg h3, Option.bind_some]
        have e : ((grp s i).length : Int) = (s.size : Int) - (i : Int) := by omega
        rw [e]
        rfl
    · rw [List.drop_eq_nil_of_le (by omega)] at hA
      have hA2 : A = sgE s.data.toList := by simpa [sgE, sgL] using hA
      refine Ev.step (f := fun _ => some _) (fun k => ?_) (Ev.now _)
      simp only [spec_l3Signs.l0]
      rw [if_neg (by omega), hA2, nums_str]

theorem signs_ev (s : ByteArray) (hs : s.size ≤ 1000000) : Ev (fun k => spec_l3Signs.f k s) (⟨(sgE s.data.toList).toArray⟩ : ByteArray) :=
  signs_loop s hs s.size 0 [] (by omega) (by omega) (by simp)


/-! ### decoding signs -/
/-- a sign's number, -1 for none -/
def ixT (b : Nat) : Int := if 65 ≤ b ∧ b ≤ 90 then (b : Int) - 65 else if 97 ≤ b ∧ b ≤ 122 then (b : Int) - 71 else if 48 ≤ b ∧ b ≤ 57 then (b : Int) + 4 else if b = 43 then 62 else if b = 47 then 63 else -1
theorem ix_of : ∀ j : Fin 64, ixT (sgT j.val).toNat = (j.val : Int) := by decide +kernel
theorem ix_no : ∀ j : Fin 64, sgT j.val ≠ 61 := by decide +kernel
theorem ix_back (b : Nat) (hb : b < 256) : ixT b = -1 ∨ (0 ≤ ixT b ∧ ixT b < 64 ∧ (sgT (ixT b).toNat).toNat = b) := by
  have h : ∀ b : Fin 256, ixT b.val = -1 ∨ (0 ≤ ixT b.val ∧ ixT b.val < 64 ∧ (sgT (ixT b.val).toNat).toNat = b.val) := by decide +kernel
  exact h ⟨b, hb⟩
theorem ix_list (b : Nat) (hb : b < 256) : Lib.indexByte [65, 66, 67, 68, 69, 70, 71, 72, 73, 74, 75, 76, 77, 78, 79, 80, 81, 82, 83, 84, 85, 86, 87, 88, 89, 90, 97, 98, 99, 100, 101, 102, 103, 104, 105, 106, 107, 108, 109, 110, 111, 112, 113, 114, 115, 116, 117, 118, 119, 120, 121, 122, 48, 49, 50, 51, 52, 53, 54, 55, 56, 57, 43, 47] (UInt8.ofNat b) = ixT b := by
  have h : ∀ b : Fin 256, Lib.indexByte [65, 66, 67, 68, 69, 70, 71, 72, 73, 74, 75, 76, 77, 78, 79, 80, 81, 82, 83, 84, 85, 86, 87, 88, 89, 90, 97, 98, 99, 100, 101, 102, 103, 104, 105, 106, 107, 108, 109, 110, 111, 112, 113, 114, 115, 116, 117, 118, 119, 120, 121, 122, 48, 49, 50, 51, 52, 53, 54, 55, 56, 57, 43, 47] (UInt8.ofNat b.val) = ixT b.val := by decide +kernel
  exact h ⟨b, hb⟩
theorem sign_ev (b : Nat) (hb : b < 256) : Ev (fun k => spec_l3Sign.f k (b : Int)) (ixT b) := by
  have loop : ∀ (d i : Nat), i + d = 64 → (∀ j, j < i → (sgT j).toNat ≠ b) → Ev (fun k => spec_l3Sign.l0 k (b : Int) (i : Int)) (ixT b) := by
    intro d
    induction d with
    | zero =>
      intro i hi h
      have e : ixT b = -1 := by
        rcases ix_back b hb with h1 | ⟨h0, h1, h2⟩
        · exact h1
        · exact absurd h2 (h _ (by omega))
      refine Ev.step (f := fun _ => some _) (fun k => ?_) (Ev.now _)
      simp only [spec_l3Sign.l0]
      rw [if_neg (by omega), e]
    | succ d ih =>
      intro i hi h
      have c1 : (i : Int) < 64 := by omega
      have c2 : (0 : Int) ≤ (i : Int) := by omega
      have hl := sg_letter_at (i : Int) c2 c1
      rw [Int.toNat_natCast] at hl
      by_cases he : (sgT i).toNat = b
      · have e : ixT b = (i : Int) := by rw [← he]; exact ix_of ⟨i, by omega⟩
        refine Ev.step (f := fun _ => some _) (fun k => ?_) (Ev.now _)
        simp only [spec_l3Sign.l0, hl]
        rw [if_pos c1, if_pos c2, if_pos (by omega), e]
      · have hw : wrap64 ((i : Int) + 1) = ((i + 1 : Nat) : Int) := by unfold wrap64; omega
        refine Ev.step (fun k => ?_) (ih (i + 1) (by omega) (fun j hj => by
          by_cases e : j = i
          · rw [e]; exact he
          · exact h j (by omega)))
        simp only [spec_l3Sign.l0, hl]
        rw [if_pos c1, if_pos c2, if_neg (by omega), hw]
  exact Ev.congr (fun _ => rfl) (loop 64 0 (by omega) (fun j hj => by omega))
/-- the byte j behind place i -/
def cB (s : ByteArray) (i j : Nat) : UInt8 := s.data.toList.getD (i + j) 0
def vB (b : UInt8) : Nat := (ixT b.toNat).toNat
def okB (b : UInt8) : Bool := decide (0 ≤ ixT b.toNat)
theorem vB_lt (b : UInt8) : vB b < 64 := by
  unfold vB
  rcases ix_back b.toNat b.toNat_lt with h | ⟨h0, h1, _⟩ <;> omega
theorem vB_of (j : Nat) (h : j < 64) : vB (sgT j) = j := by
  unfold vB
  rw [show ixT (sgT j).toNat = (j : Int) from ix_of ⟨j, h⟩]
  rfl
theorem okB_of (j : Nat) (h : j < 64) : okB (sgT j) = true := by
  unfold okB
  rw [show ixT (sgT j).toNat = (j : Int) from ix_of ⟨j, h⟩]
  exact decide_eq_true (by omega)
theorem vB_61 : vB 61 = 0 := by decide +kernel
theorem okB_61 : okB 61 = false := by decide +kernel
theorem dc_or6 (n b : Int) (h0 : 0 ≤ n) (h1 : n < 4294967296) (hb0 : 0 ≤ b) (hb1 : b < 64) : Go.bits .or .i64 (n * 64) b = n * 64 + b := by
  have l40 : (2 : Int) ^ 40 = 1099511627776 := by decide
  exact bits_join .i64 40 (by decide) sg_wraps 6 (n * 64) b (by omega) (by omega) (by omega) hb0 (by omega) (by omega)
/-- a group's number, and how many of its bytes are signs, as the reference reckons them -/
def gS (s : ByteArray) (i : Nat) : Nat → Nat → Nat → Nat → Nat × Nat
  | 0, _, n, m => (n, m)
  | d + 1, j, n, m => gS s i d (j + 1) (n * 64 + vB (cB s i j)) (m + if okB (cB s i j) = true then 1 else 0)
theorem gS_bd (s : ByteArray) (i : Nat) : ∀ (d j n m : Nat), (n + 1) * 64 ^ d ≤ 16777216 → m + d ≤ 4 → (gS s i d j n m).1 < 16777216 ∧ (gS s i d j n m).2 ≤ 4
  | 0, j, n, m, h, hm => by simp only [gS]; simp at h; omega
  | d + 1, j, n, m, h, hm => by
    simp only [gS]
    have hv := vB_lt (cB s i j)
    refine gS_bd s i d (j + 1) _ _ ?_ (by split <;> omega)
    rw [Nat.pow_succ, Nat.mul_comm (64 ^ d) 64, ← Nat.mul_assoc] at h
    exact Nat.le_trans (Nat.mul_le_mul_right _ (by omega)) h
theorem gl1 (s : ByteArray) (hs : s.size ≤ 1000000) (i : Nat) (hi : i + 4 ≤ s.size) (A : List Int) (r : ByteArray × Bool) : ∀ (d j n m : Nat), j + d = 4 → (n + 1) * 64 ^ d ≤ 16777216 → m ≤ j →
    Ev (fun k => spec_l3Of.l2 k s A (i : Int) ((gS s i d j n m).1 : Int) ((gS s i d j n m).2 : Int) 0) r → Ev (fun k => spec_l3Of.l1 k s A (i : Int) (n : Int) (m : Int) (j : Int)) r := by
  intro d
  induction d with
  | zero =>
    intro j n m hj hn hm h
    refine Ev.step (fun k => ?_) h
    simp only [spec_l3Of.l1]
    rw [if_neg (by omega)]
    rfl
  | succ d ih =>
    intro j n m hj hn hm h
    have hn2 : (n * 64 + vB (cB s i j) + 1) * 64 ^ d ≤ 16777216 := by
      have hv := vB_lt (cB s i j)
      rw [Nat.pow_succ, Nat.mul_comm (64 ^ d) 64, ← Nat.mul_assoc] at hn
      exact Nat.le_trans (Nat.mul_le_mul_right _ (by clear hn ih h; omega)) hn
    have hn3 : n + 1 ≤ 16777216 := Nat.le_trans (Nat.le_mul_of_pos_right _ (Nat.pow_pos (by decide))) hn
    clear hn
    have hm2 : (m + if okB (cB s i j) = true then 1 else 0) ≤ j + 1 := by
      clear hn2 ih h
      split <;> omega
    have hih := ih (j + 1) (n * 64 + vB (cB s i j)) (m + if okB (cB s i j) = true then 1 else 0) (by clear hn2 ih h; omega) hn2 hm2 h
    clear ih h hn2 hm2
    have hb := (cB s i j).toNat_lt
    have hE := sign_ev (cB s i j).toNat hb
    have hbt := sg_bt s (i + j) (by clear hE hih; omega)
    have hcb : bt s ((i + j : Nat) : Int) = ((cB s i j).toNat : Int) := hbt
    clear hbt
    have hw1 : wrap64 ((i : Int) + (j : Int)) = ((i + j : Nat) : Int) := by clear hE hih hcb; unfold wrap64; omega
    have hw2 : wrap64 ((n : Int) * 64) = (n : Int) * 64 := by clear hE hih hcb hw1; unfold wrap64; omega
    have hw3 : wrap64 ((j : Int) + 1) = ((j + 1 : Nat) : Int) := by clear hE hih hcb hw1 hw2; unfold wrap64; omega
    have hw4 : wrap64 ((m : Int) + 1) = ((m + 1 : Nat) : Int) := by clear hE hih hcb hw1 hw2 hw3; unfold wrap64; omega
    have c1 : (j : Int) < 4 := by clear hE hih hcb hw1 hw2 hw3 hw4; omega
    have c2 : (0 : Int) ≤ ((i + j : Nat) : Int) := Int.natCast_nonneg _
    have c3 : ((i + j : Nat) : Int) < (s.size : Int) := by clear hE hih hcb hw1 hw2 hw3 hw4; omega
    refine Ev.step (f := fun k => (spec_l3Sign.f k ((cB s i j).toNat : Int)).bind fun t109 => (if t109 ≥ 0 then (spec_l3Of.l1 k s A (i : Int) (Go.bits .or .i64 ((n : Int) * 64) t109) ((m + 1 : Nat) : Int) ((j + 1 : Nat) : Int)) else (spec_l3Of.l1 k s A (i : Int) ((n : Int) * 64) (m : Int) ((j + 1 : Nat) : Int)))) (fun k => ?_) (Ev.bind hE ?_)
    · simp only [spec_l3Of.l1, hw1, hw2, hw3, hw4, hcb]
      rw [if_pos c1, if_pos c2, if_pos c3]
    · by_cases hok : 0 ≤ ixT (cB s i j).toNat
      · have hv : ((vB (cB s i j) : Nat) : Int) = ixT (cB s i j).toNat := by unfold vB; exact Int.toNat_of_nonneg hok
        have hv2 := vB_lt (cB s i j)
        have hor : Go.bits .or .i64 ((n : Int) * 64) (ixT (cB s i j).toNat) = ((n * 64 + vB (cB s i j) : Nat) : Int) := by
          rw [← hv]
          clear hv hih hcb hE hw1 hw2 hw3 hw4
          generalize vB (cB s i j) = v at hv2 ⊢
          rw [dc_or6 _ _ (by omega) (by omega) (by omega) (by omega)]
          simp
        have hk : okB (cB s i j) = true := decide_eq_true hok
        rw [if_pos hk] at hih
        simp only [ge_iff_le, if_pos hok, hor]
        exact hih
      · have hk : ¬ okB (cB s i j) = true := by unfold okB; rw [decide_eq_false hok]; decide
        have hv : vB (cB s i j) = 0 := by unfold vB; exact Int.toNat_of_nonpos (by clear hih hE hcb hw1 hw2 hw3 hw4; omega)
        rw [if_neg hk, hv] at hih
        simp only [ge_iff_le, if_neg hok]
        exact hih
/-- the bytes that a group of m signs tells -/
def oB (n m : Nat) : List UInt8 := (List.range (m - 1)).map fun j => UInt8.ofNat (n / 2 ^ (16 - 8 * j) % 256)
theorem oB_len (n m : Nat) : (oB n m).length = m - 1 := by unfold oB; simp
theorem oB_drop (n m j : Nat) (h : j < m - 1) : (oB n m).drop j = UInt8.ofNat (n / 2 ^ (16 - 8 * j) % 256) :: (oB n m).drop (j + 1) := by
  have hl : j < (oB n m).length := by rw [oB_len]; exact h
  have e : (oB n m)[j]'hl = UInt8.ofNat (n / 2 ^ (16 - 8 * j) % 256) := by simp only [oB, List.getElem_map, List.getElem_range]
  rw [List.drop_eq_getElem_cons hl, e]
theorem sh_i (n j : Nat) (hj : j < 3) : shr .i64 (n : Int) ((16 - 8 * j : Nat) : Int) = ((n / 2 ^ (16 - 8 * j) : Nat) : Int) := by
  unfold shr
  rw [Int.toNat_natCast, Nat.min_eq_left (show 16 - 8 * j ≤ IntKind.i64.bits by show 16 - 8 * j ≤ 64; omega)]
  simp
theorem sh_w (j : Nat) (hj : j < 3) : wrap64 (16 - wrap64 (8 * (j : Int))) = ((16 - 8 * j : Nat) : Int) := by
  have h6 : wrap64 (8 * (j : Int)) = 8 * (j : Int) := by unfold wrap64; omega
  rw [h6]
  unfold wrap64
  omega
theorem sh_u (j : Nat) (hj : j < 3) : IntKind.u64.wrap (wrap64 (16 - wrap64 (8 * (j : Int)))) = ((16 - 8 * j : Nat) : Int) := by
  rw [sh_w j hj, IntKind.wrap_u64]
  omega
theorem of_byte (z : Nat) : ((UInt8.ofNat (z % 256)).toNat : Int) = ((z : Nat) : Int) % 256 := by
  simp
theorem gl2 (s : ByteArray) (i n m : Nat) (hm : m ≤ 4) (hi : i ≤ 1000000) (r : ByteArray × Bool) : ∀ (d j : Nat) (A : List Int), j + d = m - 1 → A.length + d ≤ 5000000 →
    Ev (fun k => spec_l3Of.l0 k s (A ++ ((oB n m).drop j).map fun b => (b.toNat : Int)) ((i + 4 : Nat) : Int)) r → Ev (fun k => spec_l3Of.l2 k s A (i : Int) (n : Int) (m : Int) (j : Int)) r := by
  intro d
  induction d with
  | zero =>
    intro j A hj hA h
    have hw : wrap64 ((m : Int) - 1) = (m : Int) - 1 := by unfold wrap64; omega
    have hw4 : wrap64 ((i : Int) + 4) = ((i + 4 : Nat) : Int) := by unfold wrap64; omega
    rw [List.drop_eq_nil_of_le (by rw [oB_len]; omega), List.map_nil, List.append_nil] at h
    refine Ev.step (fun k => ?_) h
    simp only [spec_l3Of.l2, hw, hw4]
    rw [if_neg (by omega)]
  | succ d ih =>
    intro j A hj hA h
    have hj3 : j < 3 := by omega
    have hw : wrap64 ((m : Int) - 1) = (m : Int) - 1 := by unfold wrap64; omega
    have hw1 : wrap64 ((j : Int) + 1) = ((j + 1 : Nat) : Int) := by unfold wrap64; omega
    have hu := sh_u j hj3
    have hi64 := sh_i n j hj3
    rw [oB_drop n m j (by omega), List.map_cons, List.append_cons, of_byte] at h
    have c1 : (j : Int) < (m : Int) - 1 := by omega
    have c2 : (0 : Int) ≤ ((16 - 8 * j : Nat) : Int) := Int.natCast_nonneg _
    have c3 : A.length < 140737488355328 := by omega
    refine Ev.step (fun k => ?_) (ih (j + 1) _ (by omega) (by simp; omega) h)
    simp only [spec_l3Of.l2, hw, hw1]
    rw [if_pos c1, hu, if_pos c2, if_pos c3, hi64]
theorem sgE_nil {S : List UInt8} (h : sgE S = []) : S = [] := by
  cases S with
  | nil => rfl
  | cons a t =>
    rw [sgE_step _ (by simp)] at h
    simp [sgG] at h
theorem n3 (g : List UInt8) : sgN g 3 = ((0 * 256 + (if 0 < g.length then (g.getD 0 0).toNat else 0)) * 256 + (if 1 < g.length then (g.getD 1 0).toNat else 0)) * 256 + (if 2 < g.length then (g.getD 2 0).toNat else 0) := rfl
theorem oB_3 (a b c : UInt8) : oB ((a.toNat * 256 + b.toNat) * 256 + c.toNat) 4 = [a, b, c] := by
  have h1 := a.toNat_lt
  have h2 := b.toNat_lt
  have h3 := c.toNat_lt
  have e : oB ((a.toNat * 256 + b.toNat) * 256 + c.toNat) 4 = [UInt8.ofNat (((a.toNat * 256 + b.toNat) * 256 + c.toNat) / 65536 % 256), UInt8.ofNat (((a.toNat * 256 + b.toNat) * 256 + c.toNat) / 256 % 256), UInt8.ofNat (((a.toNat * 256 + b.toNat) * 256 + c.toNat) / 1 % 256)] := rfl
  rw [e, show ((a.toNat * 256 + b.toNat) * 256 + c.toNat) / 65536 % 256 = a.toNat by omega, show ((a.toNat * 256 + b.toNat) * 256 + c.toNat) / 256 % 256 = b.toNat by omega, show ((a.toNat * 256 + b.toNat) * 256 + c.toNat) / 1 % 256 = c.toNat by omega]
  simp
theorem oB_2 (a b : UInt8) : oB ((a.toNat * 256 + b.toNat) * 256) 3 = [a, b] := by
  have h1 := a.toNat_lt
  have h2 := b.toNat_lt
  have e : oB ((a.toNat * 256 + b.toNat) * 256) 3 = [UInt8.ofNat (((a.toNat * 256 + b.toNat) * 256) / 65536 % 256), UInt8.ofNat (((a.toNat * 256 + b.toNat) * 256) / 256 % 256)] := rfl
  rw [e, show ((a.toNat * 256 + b.toNat) * 256) / 65536 % 256 = a.toNat by omega, show ((a.toNat * 256 + b.toNat) * 256) / 256 % 256 = b.toNat by omega]
  simp
theorem oB_1 (a : UInt8) : oB (a.toNat * 65536) 2 = [a] := by
  have h1 := a.toNat_lt
  have e : oB (a.toNat * 65536) 2 = [UInt8.ofNat ((a.toNat * 65536) / 65536 % 256)] := rfl
  rw [e, show (a.toNat * 65536) / 65536 % 256 = a.toNat by omega]
  simp
/-- what the four signs of a group of bytes tell: their numbers, and whether they are signs -/
theorem sgC_v (g : List UInt8) (j : Nat) : vB (sgC g j) = (if g.length < j then 0 else sgN g 3 / 2 ^ (18 - 6 * j) % 64) ∧ (okB (sgC g j) = true ↔ j ≤ g.length) := by
  have hlt : sgN g 3 / 2 ^ (18 - 6 * j) % 64 < 64 := Nat.mod_lt _ (by decide)
  unfold sgC
  by_cases h : g.length < j
  · rw [if_pos h, if_pos h, vB_61, okB_61]
    exact ⟨rfl, by simp; omega⟩
  · rw [if_neg h, if_neg h, vB_of _ hlt, okB_of _ hlt]
    exact ⟨rfl, by simp; omega⟩
theorem four_sum (N : Nat) (h : N < 16777216) : (((0 * 64 + N / 2 ^ (18 - 6 * 0) % 64) * 64 + N / 2 ^ (18 - 6 * 1) % 64) * 64 + N / 2 ^ (18 - 6 * 2) % 64) * 64 + N / 2 ^ (18 - 6 * 3) % 64 = N := by
  have e0 : (2 : Nat) ^ (18 - 6 * 0) = 262144 := by decide
  have e1 : (2 : Nat) ^ (18 - 6 * 1) = 4096 := by decide
  have e2 : (2 : Nat) ^ (18 - 6 * 2) = 64 := by decide
  have e3 : (2 : Nat) ^ (18 - 6 * 3) = 1 := by decide
  rw [e0, e1, e2, e3]
  omega
/-- a group's number, read out of its four signs -/
theorem four_N (g : List UInt8) (h1 : 1 ≤ g.length) (h3 : g.length ≤ 3) : (((0 * 64 + vB (sgC g 0)) * 64 + vB (sgC g 1)) * 64 + vB (sgC g 2)) * 64 + vB (sgC g 3) = sgN g 3 := by
  have hN := sgN_lt g 3
  have hs := four_sum (sgN g 3) hN
  rw [(sgC_v g 0).1, (sgC_v g 1).1, (sgC_v g 2).1, (sgC_v g 3).1, if_neg (by omega), if_neg (by omega)]
  have e2 : (2 : Nat) ^ (18 - 6 * 2) = 64 := by decide
  have e3 : (2 : Nat) ^ (18 - 6 * 3) = 1 := by decide
  by_cases c3 : g.length = 3
  · rw [if_neg (by omega), if_neg (by omega)]
    exact hs
  · have hm : sgN g 3 % 256 = 0 := by rw [n3, if_neg (show ¬ 2 < g.length by omega)]; omega
    have z3 : sgN g 3 / 2 ^ (18 - 6 * 3) % 64 = 0 := by rw [e3]; omega
    by_cases c2 : g.length = 2
    · rw [if_neg (by omega), if_pos (by omega)]
      rw [z3] at hs
      exact hs
    · have hm2 : sgN g 3 % 65536 = 0 := by rw [n3, if_neg (show ¬ 2 < g.length by omega), if_neg (show ¬ 1 < g.length by omega)]; omega
      have z2 : sgN g 3 / 2 ^ (18 - 6 * 2) % 64 = 0 := by rw [e2]; omega
      rw [if_pos (by omega), if_pos (by omega)]
      rw [z3, z2] at hs
      exact hs
theorem oB_of (g : List UInt8) (h1 : 1 ≤ g.length) (h3 : g.length ≤ 3) : oB (sgN g 3) (g.length + 1) = g := by
  rw [n3]
  match g, h1, h3 with
  | [a], _, _ =>
    show oB (((0 * 256 + a.toNat) * 256 + 0) * 256 + 0) 2 = [a]
    rw [show ((0 * 256 + a.toNat) * 256 + 0) * 256 + 0 = a.toNat * 65536 by omega]
    exact oB_1 a
  | [a, b], _, _ =>
    show oB (((0 * 256 + a.toNat) * 256 + b.toNat) * 256 + 0) 3 = [a, b]
    rw [show ((0 * 256 + a.toNat) * 256 + b.toNat) * 256 + 0 = (a.toNat * 256 + b.toNat) * 256 by omega]
    exact oB_2 a b
  | [a, b, c], _, _ =>
    show oB (((0 * 256 + a.toNat) * 256 + b.toNat) * 256 + c.toNat) 4 = [a, b, c]
    rw [show ((0 * 256 + a.toNat) * 256 + b.toNat) * 256 + c.toNat = (a.toNat * 256 + b.toNat) * 256 + c.toNat by omega]
    exact oB_3 a b c
  | a :: b :: c :: d :: t, _, h3 => simp at h3
/-- where a group of signs stands, the reference tells its bytes -/
theorem gS_of (s : ByteArray) (i : Nat) (g : List UInt8) (h1 : 1 ≤ g.length) (h3 : g.length ≤ 3) (hc : ∀ j, j < 4 → cB s i j = sgC g j) : oB (gS s i 4 0 0 0).1 (gS s i 4 0 0 0).2 = g := by
  have e : gS s i 4 0 0 0 = ((((0 * 64 + vB (cB s i 0)) * 64 + vB (cB s i 1)) * 64 + vB (cB s i 2)) * 64 + vB (cB s i 3), (((0 + if okB (cB s i 0) = true then 1 else 0) + if okB (cB s i 1) = true then 1 else 0) + if okB (cB s i 2) = true then 1 else 0) + if okB (cB s i 3) = true then 1 else 0) := rfl
  rw [e, hc 0 (by omega), hc 1 (by omega), hc 2 (by omega), hc 3 (by omega)]
  simp only [four_N g h1 h3]
  have e2 : ((((0 + if okB (sgC g 0) = true then 1 else 0) + if okB (sgC g 1) = true then 1 else 0) + if okB (sgC g 2) = true then 1 else 0) + if okB (sgC g 3) = true then 1 else 0) = g.length + 1 := by
    rw [if_pos ((sgC_v g 0).2.mpr (by omega)), if_pos ((sgC_v g 1).2.mpr (by omega))]
    by_cases c2 : 2 ≤ g.length
    · rw [if_pos ((sgC_v g 2).2.mpr c2)]
      by_cases c3 : 3 ≤ g.length
      · rw [if_pos ((sgC_v g 3).2.mpr c3)]; omega
      · rw [if_neg (fun h => c3 ((sgC_v g 3).2.mp h))]; omega
    · rw [if_neg (fun h => c2 ((sgC_v g 2).2.mp h)), if_neg (fun h => by have := (sgC_v g 3).2.mp h; omega)]; omega
  rw [e2]
  exact oB_of g h1 h3
theorem drop_group (s : ByteArray) (i : Nat) (S : List UInt8) (hi : i < s.size) (h : s.data.toList.drop i = sgE S) :
    S ≠ [] ∧ 1 ≤ (S.take 3).length ∧ (S.take 3).length ≤ 3 ∧ (∀ j, j < 4 → cB s i j = sgC (S.take 3) j) ∧ s.data.toList.drop (i + 4) = sgE (S.drop 3) ∧ (s.data.toList.drop i).take 4 = sgG (S.take 3) := by
  have hne : S ≠ [] := by
    rintro rfl
    have := congrArg List.length h
    rw [List.length_drop, ← Lib.size_eq] at this
    simp [sgE, sgL] at this
    omega
  have hst := sgE_step S hne
  rw [hst] at h
  have hl : (sgG (S.take 3)).length = 4 := rfl
  refine ⟨hne, ?_, ?_, ?_, ?_, ?_⟩
  · rw [List.length_take]
    have := List.length_pos_iff.mpr hne
    omega
  · rw [List.length_take]; omega
  · intro j hj
    unfold cB
    rw [List.getD_eq_getElem?_getD, ← List.getElem?_drop, h, List.getElem?_append_left (by omega)]
    match j, hj with
    | 0, _ => rfl
    | 1, _ => rfl
    | 2, _ => rfl
    | 3, _ => rfl
  · rw [← List.drop_drop, h, List.drop_append, hl]
    simp [sgG]
  · rw [h, List.take_append, hl]
    simp [sgG]
/-- the reference's decoding of any text: what it tells, and that it is right where there is a right one -/
theorem of_spec (t : ByteArray) (ht : t.size ≤ 100000) (h4 : t.size % 4 = 0) : ∀ (d i : Nat) (A : List UInt8), i + 4 * d = t.size → A.length ≤ i →
    ∃ D : List UInt8, D.length ≤ t.size ∧ Ev (fun k => spec_l3Of.l0 k t (A.map fun b => (b.toNat : Int)) (i : Int)) (⟨D.toArray⟩, ((⟨(sgE D).toArray⟩ : ByteArray).toList == t.toList)) ∧ (∀ S, t.data.toList.drop i = sgE S → D = A ++ S) := by
  intro d
  induction d with
  | zero =>
    intro i A hi hA
    refine ⟨A, by omega, ?_, fun S h => ?_⟩
    · have hE := signs_ev (⟨A.toArray⟩ : ByteArray) (by show A.toArray.size ≤ _; simp; omega)
      have hl : (⟨A.toArray⟩ : ByteArray).data.toList = A := by simp
      rw [hl] at hE
      refine Ev.step (f := fun k => (spec_l3Signs.f k (⟨A.toArray⟩ : ByteArray)).bind fun t108 => (some ((⟨A.toArray⟩ : ByteArray), (t108.toList == t.toList)))) (fun k => ?_) (Ev.bind hE (Ev.now _))
      simp only [spec_l3Of.l0, nums_str]
      rw [if_neg (by omega)]
    · rw [List.drop_eq_nil_of_le (by rw [← Lib.size_eq]; omega)] at h
      rw [sgE_nil h.symm, List.append_nil]
  | succ d ih =>
    intro i A hi hA
    have hb := gS_bd t i 4 0 0 0 (by decide) (by omega)
    have hlen := oB_len (gS t i 4 0 0 0).1 (gS t i 4 0 0 0).2
    obtain ⟨D, hD, hE, hS⟩ := ih (i + 4) (A ++ oB (gS t i 4 0 0 0).1 (gS t i 4 0 0 0).2) (by omega) (by rw [List.length_append]; omega)
    refine ⟨D, hD, ?_, fun S h => ?_⟩
    · rw [List.map_append] at hE
      have hg2 := gl2 t i (gS t i 4 0 0 0).1 (gS t i 4 0 0 0).2 hb.2 (by omega) _ ((gS t i 4 0 0 0).2 - 1) 0 (A.map fun b => (b.toNat : Int)) (by omega) (by simp; omega) hE
      have hg1 := gl1 t (by omega) i (by omega) (A.map fun b => (b.toNat : Int)) _ 4 0 0 0 (by omega) (by decide) (by omega) hg2
      refine Ev.step (fun k => ?_) hg1
      simp only [spec_l3Of.l0]
      rw [if_pos (by omega)]
      rfl
    · obtain ⟨_, h1, h3, hc, hd, _⟩ := drop_group t i S (by omega) h
      rw [hS (S.drop 3) hd, gS_of t i (S.take 3) h1 h3 hc, List.append_assoc, List.take_append_drop]


/-! ### the program's decoding -/
/-- a group's number as the program reckons it: G are its signs, without the last '=' -/
def gI (G : List UInt8) : Nat → Nat → Nat → Nat
  | 0, _, n => n
  | d + 1, j, n => gI G d (j + 1) (n * 64 + if j < G.length then vB (G.getD j 0) else 0)
theorem gI_bd (G : List UInt8) : ∀ (d j n : Nat), (n + 1) * 64 ^ d ≤ 16777216 → gI G d j n < 16777216
  | 0, j, n, h => by simp only [gI]; simp at h; omega
  | d + 1, j, n, h => by
    simp only [gI]
    have hv := vB_lt (G.getD j 0)
    refine gI_bd G d (j + 1) _ ?_
    rw [Nat.pow_succ, Nat.mul_comm (64 ^ d) 64, ← Nat.mul_assoc] at h
    refine Nat.le_trans (Nat.mul_le_mul_right _ ?_) h
    clear h
    split <;> omega
theorem idx_ev (u : ByteArray) (j : Nat) (hj : j < u.size) : strings_IndexByte.f (⟨#[65, 66, 67, 68, 69, 70, 71, 72, 73, 74, 75, 76, 77, 78, 79, 80, 81, 82, 83, 84, 85, 86, 87, 88, 89, 90, 97, 98, 99, 100, 101, 102, 103, 104, 105, 106, 107, 108, 109, 110, 111, 112, 113, 114, 115, 116, 117, 118, 119, 120, 121, 122, 48, 49, 50, 51, 52, 53, 54, 55, 56, 57, 43, 47]⟩ : ByteArray) (bt u (j : Int)) = some (ixT (u.data.toList.getD j 0).toNat) := by
  unfold strings_IndexByte.f
  rw [sg_bt u j hj, Int.toNat_natCast]
  exact congrArg some (ix_list _ (UInt8.toNat_lt _))
/-- what the program does behind its loop over a group's signs -/
def iRest (k : Nat) (t : ByteArray) (A : List Int) (i : Int) (u : ByteArray) (n : Int) : Option (ByteArray × Bool) :=
  if (u.size : Int) < 2 then (some ((⟨#[]⟩ : ByteArray), false)) else (impl_ofSigns.l2 k t A i n (wrap64 ((u.size : Int) - 1)) 0)
theorem il1 (t : ByteArray) (A : List Int) (i : Int) (u : ByteArray) (r : ByteArray × Bool) : ∀ (d j n : Nat), j + d = 4 → (n + 1) * 64 ^ d ≤ 16777216 → (∀ j', j ≤ j' → j' < u.size → okB (u.data.toList.getD j' 0) = true) →
    Ev (fun k => iRest k t A i u (gI u.data.toList d j n : Int)) r → Ev (fun k => impl_ofSigns.l1 k t A i u (n : Int) (j : Int)) r := by
  intro d
  induction d with
  | zero =>
    intro j n hj hn hok h
    refine Ev.step (fun k => ?_) h
    simp only [impl_ofSigns.l1]
    rw [if_neg (by omega)]
    rfl
  | succ d ih =>
    intro j n hj hn hok h
    have hv := vB_lt (u.data.toList.getD j 0)
    have hn2 : (n * 64 + (if j < u.data.toList.length then vB (u.data.toList.getD j 0) else 0) + 1) * 64 ^ d ≤ 16777216 := by
      rw [Nat.pow_succ, Nat.mul_comm (64 ^ d) 64, ← Nat.mul_assoc] at hn
      refine Nat.le_trans (Nat.mul_le_mul_right _ ?_) hn
      clear hn ih h
      split <;> omega
    have hn3 : n + 1 ≤ 16777216 := Nat.le_trans (Nat.le_mul_of_pos_right _ (Nat.pow_pos (by decide))) hn
    clear hn
    have hih := ih (j + 1) _ (by clear hn2 ih h; omega) hn2 (fun j' h1 h2 => hok j' (by omega) h2) h
    clear ih h hn2
    have hsl := Lib.size_eq u
    have hw2 : wrap64 ((n : Int) * 64) = (n : Int) * 64 := by clear hih; unfold wrap64; omega
    have hw3 : wrap64 ((j : Int) + 1) = ((j + 1 : Nat) : Int) := by clear hih hw2; unfold wrap64; omega
    have c1 : (j : Int) < 4 := by clear hih hw2 hw3; omega
    by_cases hlt : j < u.size
    · have c2 : ¬ (j : Int) ≥ (u.size : Int) := by clear hih hw2 hw3; omega
      have c3 : (0 : Int) ≤ (j : Int) := Int.natCast_nonneg _
      have c4 : (j : Int) < (u.size : Int) := by clear hih hw2 hw3; omega
      have hix := idx_ev u j hlt
      have hk := hok j (Nat.le_refl _) hlt
      rw [if_pos (by rw [← hsl]; exact hlt)] at hih
      generalize u.data.toList.getD j 0 = c at hih hix hk hv
      have h0 : 0 ≤ ixT c.toNat := of_decide_eq_true hk
      have hvi : ((vB c : Nat) : Int) = ixT c.toNat := by unfold vB; exact Int.toNat_of_nonneg h0
      have hor : Go.bits .or .i64 ((n : Int) * 64) (ixT c.toNat) = ((n * 64 + vB c : Nat) : Int) := by
        rw [← hvi]
        clear hvi hih hix hk hw2 hw3
        generalize vB c = v at hv ⊢
        rw [dc_or6 _ _ (by omega) (by omega) (by omega) (by omega)]
        simp
      refine Ev.step (fun k => ?_) hih
      simp only [impl_ofSigns.l1, hw2, hw3]
      rw [if_pos c1, if_neg c2, if_pos c3, if_pos c4, hix, Option.bind_some, if_neg (by omega), hor]
    · have c2 : (j : Int) ≥ (u.size : Int) := by clear hih hw2 hw3; omega
      rw [if_neg (by rw [← hsl]; exact hlt)] at hih
      refine Ev.step (fun k => ?_) hih
      simp only [impl_ofSigns.l1, hw2, hw3]
      rw [if_pos c1, if_pos c2]
      rfl
theorem il1_bad (t : ByteArray) (A : List Int) (i : Int) (u : ByteArray) (hu : u.size ≤ 4) : ∀ (d j n : Nat), j + d = 4 → (n + 1) * 64 ^ d ≤ 16777216 → (∃ j', j ≤ j' ∧ j' < u.size ∧ ¬ okB (u.data.toList.getD j' 0) = true) →
    Ev (fun k => impl_ofSigns.l1 k t A i u (n : Int) (j : Int)) ((⟨#[]⟩ : ByteArray), false) := by
  intro d
  induction d with
  | zero =>
    intro j n hj hn hbad
    obtain ⟨j', h1, h2, _⟩ := hbad
    omega
  | succ d ih =>
    intro j n hj hn hbad
    have hv := vB_lt (u.data.toList.getD j 0)
    have hn2 : (n * 64 + vB (u.data.toList.getD j 0) + 1) * 64 ^ d ≤ 16777216 := by
      rw [Nat.pow_succ, Nat.mul_comm (64 ^ d) 64, ← Nat.mul_assoc] at hn
      refine Nat.le_trans (Nat.mul_le_mul_right _ ?_) hn
      clear hn ih
      omega
    have hn3 : n + 1 ≤ 16777216 := Nat.le_trans (Nat.le_mul_of_pos_right _ (Nat.pow_pos (by decide))) hn
    clear hn
    have hw2 : wrap64 ((n : Int) * 64) = (n : Int) * 64 := by clear hn2 ih; unfold wrap64; omega
    have hw3 : wrap64 ((j : Int) + 1) = ((j + 1 : Nat) : Int) := by clear hw2 hn2 ih; unfold wrap64; omega
    have c1 : (j : Int) < 4 := by clear hw2 hw3 hn2 ih; omega
    obtain ⟨j', hj1, hj2, hj3⟩ := hbad
    have hlt : j < u.size := by omega
    have c2 : ¬ (j : Int) ≥ (u.size : Int) := by clear hw2 hw3 hn2 ih; omega
    have c3 : (0 : Int) ≤ (j : Int) := Int.natCast_nonneg _
    have c4 : (j : Int) < (u.size : Int) := by clear hw2 hw3 hn2 ih; omega
    have hix := idx_ev u j hlt
    by_cases hk : okB (u.data.toList.getD j 0) = true
    · have hne : j ≠ j' := by rintro rfl; exact hj3 hk
      have hih := ih (j + 1) _ (by clear hn2 ih hix; omega) hn2 ⟨j', by omega, hj2, hj3⟩
      clear ih hn2 hj3
      generalize u.data.toList.getD j 0 = c at hih hix hk hv
      have h0 : 0 ≤ ixT c.toNat := of_decide_eq_true hk
      have hvi : ((vB c : Nat) : Int) = ixT c.toNat := by unfold vB; exact Int.toNat_of_nonneg h0
      have hor : Go.bits .or .i64 ((n : Int) * 64) (ixT c.toNat) = ((n * 64 + vB c : Nat) : Int) := by
        rw [← hvi]
        clear hvi hih hix hk hw2 hw3
        generalize vB c = v at hv ⊢
        rw [dc_or6 _ _ (by omega) (by omega) (by omega) (by omega)]
        simp
      refine Ev.step (fun k => ?_) hih
      simp only [impl_ofSigns.l1, hw2, hw3]
      rw [if_pos c1, if_neg c2, if_pos c3, if_pos c4, hix, Option.bind_some, if_neg (by omega), hor]
    · have h0 : ixT (u.data.toList.getD j 0).toNat < 0 := by
        unfold okB at hk
        simpa using hk
      refine Ev.step (f := fun _ => some _) (fun k => ?_) (Ev.now _)
      simp only [impl_ofSigns.l1, hw2, hw3]
      rw [if_pos c1, if_neg c2, if_pos c3, if_pos c4, hix, Option.bind_some, if_pos h0]
theorem il2 (t : ByteArray) (i n m : Nat) (hm : m ≤ 4) (hm1 : 1 ≤ m) (hi : i ≤ 1000000) (r : ByteArray × Bool) : ∀ (d j : Nat) (A : List Int), j + d = m - 1 → A.length + d ≤ 5000000 →
    Ev (fun k => impl_ofSigns.l0 k t (A ++ ((oB n m).drop j).map fun b => (b.toNat : Int)) ((i + 4 : Nat) : Int)) r → Ev (fun k => impl_ofSigns.l2 k t A (i : Int) (n : Int) ((m - 1 : Nat) : Int) (j : Int)) r := by
  intro d
  induction d with
  | zero =>
    intro j A hj hA h
    have hw4 : wrap64 ((i : Int) + 4) = ((i + 4 : Nat) : Int) := by unfold wrap64; omega
    rw [List.drop_eq_nil_of_le (by rw [oB_len]; omega), List.map_nil, List.append_nil] at h
    refine Ev.step (fun k => ?_) h
    simp only [impl_ofSigns.l2, hw4]
    rw [if_neg (by omega)]
  | succ d ih =>
    intro j A hj hA h
    have hj3 : j < 3 := by omega
    have hw1 : wrap64 ((j : Int) + 1) = ((j + 1 : Nat) : Int) := by unfold wrap64; omega
    have hu := sh_w j hj3
    have hi64 := sh_i n j hj3
    rw [oB_drop n m j (by omega), List.map_cons, List.append_cons, of_byte] at h
    have c1 : (j : Int) < ((m - 1 : Nat) : Int) := by omega
    have c2 : (0 : Int) ≤ ((16 - 8 * j : Nat) : Int) := Int.natCast_nonneg _
    have c3 : A.length < 140737488355328 := by omega
    refine Ev.step (fun k => ?_) (ih (j + 1) _ (by omega) (by simp; omega) h)
    simp only [impl_ofSigns.l2, hw1]
    rw [if_pos c1, hu, if_pos c2, if_pos c3, hi64]
theorem trim_len (l : List UInt8) : (Lib.trimRightB l 61).length ≤ l.length := by
  unfold Lib.trimRightB
  rw [List.length_reverse]
  have h := (List.dropWhile_suffix (l := l.reverse) (fun x => x == (61 : UInt8))).length_le
  simpa using h
theorem trim_group (g : List UInt8) (h1 : 1 ≤ g.length) (h3 : g.length ≤ 3) : Lib.trimRightB (sgG g) 61 = (sgG g).take (g.length + 1) := by
  have hl : (sgG g).length = 4 := rfl
  have at_ : ∀ j, j < 4 → (sgG g)[j]? = some (sgC g j) := fun j hj => by
    match j, hj with
    | 0, _ => rfl
    | 1, _ => rfl
    | 2, _ => rfl
    | 3, _ => rfl
  refine Lib.trimRightB_take (sgG g) 61 (g.length + 1) (by omega) (fun j b hj hb => ?_) (fun b _ hb => ?_)
  · have hj4 : j < 4 := by rw [← hl]; exact (List.getElem?_eq_some_iff.mp hb).1
    rw [at_ j hj4] at hb
    obtain rfl := Option.some.inj hb
    unfold sgC
    rw [if_pos (by omega)]
  · rw [Nat.add_sub_cancel, at_ _ (by omega)] at hb
    obtain rfl := Option.some.inj hb
    unfold sgC
    rw [if_neg (by omega)]
    exact ix_no ⟨sgN g 3 / 2 ^ (18 - 6 * g.length) % 64, Nat.mod_lt _ (by decide)⟩
theorem gI_of (g : List UInt8) (h1 : 1 ≤ g.length) (h3 : g.length ≤ 3) : gI ((sgG g).take (g.length + 1)) 4 0 0 = sgN g 3 := by
  have hl : ((sgG g).take (g.length + 1)).length = g.length + 1 := by rw [List.length_take]; have : (sgG g).length = 4 := rfl; omega
  have ev : ∀ j, j < 4 → (if j < ((sgG g).take (g.length + 1)).length then vB (((sgG g).take (g.length + 1)).getD j 0) else 0) = vB (sgC g j) := fun j hj => by
    rw [hl]
    by_cases hc : j < g.length + 1
    · rw [if_pos hc, List.getD_eq_getElem?_getD, List.getElem?_take_of_lt hc]
      match j, hj with
      | 0, _ => rfl
      | 1, _ => rfl
      | 2, _ => rfl
      | 3, _ => rfl
    · rw [if_neg hc, (sgC_v g j).1, if_pos (by omega)]
  have e : gI ((sgG g).take (g.length + 1)) 4 0 0 = (((0 * 64 + (if 0 < ((sgG g).take (g.length + 1)).length then vB (((sgG g).take (g.length + 1)).getD 0 0) else 0)) * 64 + (if 1 < ((sgG g).take (g.length + 1)).length then vB (((sgG g).take (g.length + 1)).getD 1 0) else 0)) * 64 + (if 2 < ((sgG g).take (g.length + 1)).length then vB (((sgG g).take (g.length + 1)).getD 2 0) else 0)) * 64 + (if 3 < ((sgG g).take (g.length + 1)).length then vB (((sgG g).take (g.length + 1)).getD 3 0) else 0) := rfl
  rw [e, ev 0 (by omega), ev 1 (by omega), ev 2 (by omega), ev 3 (by omega)]
  exact four_N g h1 h3
/-- the program's answer at the end, of what it decoded -/
def finI (t : ByteArray) (D : List UInt8) : ByteArray × Bool := if sgE D = t.data.toList ∧ D.length ≤ 600 then ((⟨D.toArray⟩ : ByteArray), true) else ((⟨#[]⟩ : ByteArray), false)
theorem fin_ev (t : ByteArray) (A : List UInt8) (i : Nat) (hi : t.size ≤ i) (hA : A.length ≤ 1000000) : Ev (fun k => impl_ofSigns.l0 k t (A.map fun b => (b.toNat : Int)) (i : Int)) (finI t A) := by
  refine Ev.step (f := fun _ => some _) (fun k => ?_) (Ev.now _)
  have hsg : impl_signsOf.f (⟨A.toArray⟩ : ByteArray) = some (⟨(sgE A).toArray⟩ : ByteArray) := by
    unfold impl_signsOf.f
    rw [if_pos (by show A.toArray.size ≤ _; simp; omega)]
  have hl : (⟨(sgE A).toArray⟩ : ByteArray).toList = sgE A := by rw [Lib.toList_data]
  simp only [impl_ofSigns.l0, nums_str]
  rw [if_neg (by omega), hsg, Option.bind_some, hl, Lib.toList_data t, List.length_map]
  unfold finI
  by_cases h1 : sgE A = t.data.toList
  · rw [if_pos h1]
    by_cases h2 : A.length ≤ 600
    · rw [if_neg (by omega), if_pos ⟨h1, h2⟩]
    · rw [if_pos (by omega), if_neg (fun h => h2 h.2)]
  · rw [if_neg h1, if_neg (fun h => h1 h.1)]
theorem of_impl (t : ByteArray) (ht : t.size ≤ 100000) : ∀ (d i : Nat) (A : List UInt8), i + 4 * d = t.size → A.length ≤ i →
    ∃ r : ByteArray × Bool, (r = ((⟨#[]⟩ : ByteArray), false) ∨ ∃ D, r = finI t D) ∧ Ev (fun k => impl_ofSigns.l0 k t (A.map fun b => (b.toNat : Int)) (i : Int)) r ∧ (∀ S, t.data.toList.drop i = sgE S → r = finI t (A ++ S)) := by
  intro d
  induction d with
  | zero =>
    intro i A hi hA
    refine ⟨finI t A, .inr ⟨A, rfl⟩, fin_ev t A i (by omega) (by omega), fun S h => ?_⟩
    rw [List.drop_eq_nil_of_le (by rw [← Lib.size_eq]; omega)] at h
    rw [sgE_nil h.symm, List.append_nil]
  | succ d ih =>
    intro i A hi hA
    obtain ⟨u, hu⟩ : ∃ u, trimR (t.extract i (i + 4)) = u := ⟨_, rfl⟩
    have hg4 : (t.extract i (i + 4)).data.toList = (t.data.toList.drop i).take 4 := by
      have h := Lib.extract_toList t i (i + 4)
      rw [Lib.toList_data] at h
      rw [h, Nat.add_sub_cancel_left]
    have hul : u.data.toList = Lib.trimRightB ((t.data.toList.drop i).take 4) 61 := by
      rw [← hu, ← hg4]
      unfold trimR
      rfl
    have hus : u.size ≤ 4 := by
      rw [Lib.size_eq, hul]
      have h1 := trim_len ((t.data.toList.drop i).take 4)
      rw [List.length_take] at h1
      omega
    have htr : strings_TrimRight.f (t.extract i (i + 4)) (⟨#[61]⟩ : ByteArray) = some u := by
      unfold strings_TrimRight.f
      rw [if_pos ⟨rfl, by rw [ByteArray.size_extract]; omega⟩, hu]
    have hw4 : wrap64 ((i : Int) + 4) = ((i + 4 : Nat) : Int) := by unfold wrap64; omega
    have h0 : ∀ r, Ev (fun k => impl_ofSigns.l1 k t (A.map fun b => (b.toNat : Int)) (i : Int) u 0 0) r → Ev (fun k => impl_ofSigns.l0 k t (A.map fun b => (b.toNat : Int)) (i : Int)) r := fun r h => by
      refine Ev.step (fun k => ?_) h
      simp only [impl_ofSigns.l0, hw4, Int.toNat_natCast]
      rw [if_pos (by omega), if_pos (by omega), if_pos (by omega), if_pos (by omega), htr, Option.bind_some]
    have hgood : ∀ S, t.data.toList.drop i = sgE S → (1 ≤ (S.take 3).length ∧ (S.take 3).length ≤ 3) ∧ t.data.toList.drop (i + 4) = sgE (S.drop 3) ∧ u.data.toList = (sgG (S.take 3)).take ((S.take 3).length + 1) ∧ u.size = (S.take 3).length + 1 ∧ (∀ j, j < u.size → okB (u.data.toList.getD j 0) = true) := fun S h => by
      obtain ⟨_, h1, h3, _, hd, hg⟩ := drop_group t i S (by omega) h
      have hul2 : u.data.toList = (sgG (S.take 3)).take ((S.take 3).length + 1) := by rw [hul, hg, trim_group _ h1 h3]
      have hsz : u.size = (S.take 3).length + 1 := by
        rw [Lib.size_eq, hul2, List.length_take]
        have : (sgG (S.take 3)).length = 4 := rfl
        omega
      refine ⟨⟨h1, h3⟩, hd, hul2, hsz, fun j hj => ?_⟩
      rw [hul2, List.getD_eq_getElem?_getD, List.getElem?_take_of_lt (by omega)]
      have e : ∀ j, j < 4 → (sgG (S.take 3))[j]?.getD 0 = sgC (S.take 3) j := fun j hj => by
        match j, hj with
        | 0, _ => rfl
        | 1, _ => rfl
        | 2, _ => rfl
        | 3, _ => rfl
      rw [e j (by omega)]
      exact (sgC_v _ _).2.mpr (by omega)
    by_cases hok : ∀ j', 0 ≤ j' → j' < u.size → okB (u.data.toList.getD j' 0) = true
    · have hbd := gI_bd u.data.toList 4 0 0 (by decide)
      by_cases h2 : u.size < 2
      · refine ⟨((⟨#[]⟩ : ByteArray), false), .inl rfl, h0 _ (il1 t _ _ u _ 4 0 0 (by omega) (by decide) hok ?_), fun S h => ?_⟩
        · refine Ev.congr (fun k => ?_) (Ev.now _)
          unfold iRest
          rw [if_pos (by omega)]
        · obtain ⟨⟨h1, _⟩, _, _, hsz, _⟩ := hgood S h
          omega
      · have hlen := oB_len (gI u.data.toList 4 0 0) u.size
        obtain ⟨r, hr, hE, hS⟩ := ih (i + 4) (A ++ oB (gI u.data.toList 4 0 0) u.size) (by omega) (by rw [List.length_append]; omega)
        refine ⟨r, hr, h0 _ (il1 t _ _ u _ 4 0 0 (by omega) (by decide) hok ?_), fun S h => ?_⟩
        · rw [List.map_append] at hE
          have hw1 : wrap64 ((u.size : Int) - 1) = ((u.size - 1 : Nat) : Int) := by unfold wrap64; omega
          refine Ev.congr (fun k => ?_) (il2 t i (gI u.data.toList 4 0 0) u.size hus (by omega) (by omega) r (u.size - 1) 0 (A.map fun b => (b.toNat : Int)) (by omega) (by simp; omega) hE)
          unfold iRest
          rw [if_neg (by omega), hw1]
          rfl
        · obtain ⟨⟨h1, h3⟩, hd, hul2, hsz, _⟩ := hgood S h
          rw [hS (S.drop 3) hd, hul2, gI_of _ h1 h3, hsz, oB_of _ h1 h3, List.append_assoc, List.take_append_drop]
    · have hbad : ∃ j', 0 ≤ j' ∧ j' < u.size ∧ ¬ okB (u.data.toList.getD j' 0) = true := by
        apply Classical.byContradiction
        intro hh
        apply hok
        intro j' h1 h2
        apply Classical.byContradiction
        intro h3
        exact hh ⟨j', h1, h2, h3⟩
      refine ⟨((⟨#[]⟩ : ByteArray), false), .inl rfl, h0 _ (il1_bad t _ _ u hus 4 0 0 (by omega) (by decide) hbad), fun S h => ?_⟩
      obtain ⟨_, _, _, _, hall⟩ := hgood S h
      exact absurd (fun j' _ h2 => hall j' h2) hok
theorem sgE_len (l : List UInt8) : ∀ n, l.length ≤ n → (sgE l).length = (l.length + 2) / 3 * 4 := by
  intro n
  induction n generalizing l with
  | zero =>
    intro h
    have : l = [] := List.eq_nil_of_length_eq_zero (by omega)
    subst this
    rfl
  | succ n ih =>
    intro h
    by_cases hne : l = []
    · subst hne
      rfl
    · have hp := List.length_pos_iff.mpr hne
      rw [sgE_step l hne, List.length_append, ih _ (by rw [List.length_drop]; omega), List.length_drop]
      have : (sgG (l.take 3)).length = 4 := rfl
      omega
/-- the reference's decoding of any text -/
theorem spec_of (t : ByteArray) (ht : t.size ≤ 100000) : ∃ r : ByteArray × Bool, Ev (fun k => spec_l3Of.f k t) r ∧ (r.2 = true → sgE r.1.data.toList = t.data.toList) ∧ (∀ S, sgE S = t.data.toList → r = ((⟨S.toArray⟩ : ByteArray), true)) := by
  by_cases h4 : t.size % 4 = 0
  · obtain ⟨D, _, hE, hS⟩ := of_spec t ht h4 (t.size / 4) 0 [] (by omega) (by simp)
    refine ⟨_, Ev.congr (fun k => ?_) hE, fun h => ?_, fun S h => ?_⟩
    · unfold spec_l3Of.f
      rw [if_pos (by omega)]
      rfl
    · have h1 : (⟨(sgE D).toArray⟩ : ByteArray).toList = t.toList := beq_iff_eq.mp h
      rw [Lib.toList_data, Lib.toList_data] at h1
      simpa using h1
    · have e := hS S (by rw [List.drop_zero]; exact h.symm)
      rw [List.nil_append] at e
      subst e
      congr 1
      rw [Lib.toList_data, Lib.toList_data]
      simpa using h
  · refine ⟨((⟨#[]⟩ : ByteArray), false), Ev.congr (fun k => ?_) (Ev.now _), (fun h => by cases h), fun S h => ?_⟩
    · unfold spec_l3Of.f
      rw [if_neg (by omega)]
    · have h1 := congrArg List.length h
      rw [sgE_len S _ (Nat.le_refl _), ← Lib.size_eq] at h1
      omega
/-- the program's decoding of any text -/
theorem impl_of (t : ByteArray) (ht : t.size ≤ 100000) : ∃ r : ByteArray × Bool, Ev (fun k => impl_ofSigns.f k t) r ∧ (r = ((⟨#[]⟩ : ByteArray), false) ∨ (r.2 = true ∧ r.1.size ≤ 600 ∧ sgE r.1.data.toList = t.data.toList)) ∧ (∀ S, sgE S = t.data.toList → S.length ≤ 600 → r = ((⟨S.toArray⟩ : ByteArray), true)) := by
  have bad : Ev (fun k => impl_ofSigns.j0 k t true) ((⟨#[]⟩ : ByteArray), false) := Ev.step (f := fun _ => some _) (fun k => by simp only [impl_ofSigns.j0]; rw [if_pos trivial]) (Ev.now _)
  have hlen : ∀ S, sgE S = t.data.toList → (S.length + 2) / 3 * 4 = t.size := fun S h => by
    have h1 := congrArg List.length h
    rw [sgE_len S _ (Nat.le_refl _), ← Lib.size_eq] at h1
    exact h1
  by_cases h4 : t.size % 4 = 0
  · by_cases h8 : t.size ≤ 800
    · obtain ⟨r, hr, hE, hS⟩ := of_impl t ht (t.size / 4) 0 [] (by omega) (by simp)
      refine ⟨r, Ev.congr (f := fun k => impl_ofSigns.j0 k t false) (fun k => ?_) (Ev.step (fun k => ?_) hE), ?_, fun S h h6 => ?_⟩
      · unfold impl_ofSigns.f
        rw [if_pos (by omega), decide_eq_false (by omega)]
      · simp only [impl_ofSigns.j0]
        rw [if_neg (by decide)]
        rfl
      · rcases hr with hr | ⟨D, hr⟩
        · exact .inl hr
        · rw [hr]
          unfold finI
          by_cases hc : sgE D = t.data.toList ∧ D.length ≤ 600
          · rw [if_pos hc]
            exact .inr ⟨rfl, by show D.toArray.size ≤ 600; simpa using hc.2, by simpa using hc.1⟩
          · rw [if_neg hc]
            exact .inl rfl
      · rw [hS S (by rw [List.drop_zero]; exact h.symm), List.nil_append]
        unfold finI
        rw [if_pos ⟨h, h6⟩]
    · refine ⟨_, Ev.congr (fun k => ?_) bad, .inl rfl, fun S h h6 => ?_⟩
      · unfold impl_ofSigns.f
        rw [if_pos (by omega), decide_eq_true (by omega)]
      · have := hlen S h
        omega
  · refine ⟨_, Ev.congr (fun k => ?_) bad, .inl rfl, fun S h h6 => ?_⟩
    · unfold impl_ofSigns.f
      rw [if_neg (by omega)]
    · have := hlen S h
      omega


def chk (w : Nat) : Nat → List UInt8 → List (List UInt8)
  | 0, _ => []
  | d + 1, l => if l = [] then [] else l.take w :: chk w d (l.drop w)
theorem chk_nil (w d : Nat) : chk w d [] = [] := by cases d <;> simp [chk]
theorem chk_flat (w : Nat) (hw : 0 < w) : ∀ (d : Nat) (l : List UInt8), l.length ≤ d → (chk w d l).flatten = l := by
  intro d
  induction d with
  | zero => intro l h; have : l = [] := List.length_eq_zero_iff.mp (by omega); subst this; rfl
  | succ d ih =>
    intro l h
    unfold chk
    split
    · next h0 => rw [h0]; rfl
    · next h0 =>
      have : 0 < l.length := List.length_pos_iff.mpr h0
      rw [List.flatten_cons, ih _ (by rw [List.length_drop]; omega), List.take_append_drop]
theorem chk_mem (w : Nat) : ∀ (d : Nat) (l e : List UInt8), e ∈ chk w d l → ∀ c ∈ e, c ∈ l := by
  intro d
  induction d with
  | zero => intro l e h; simp [chk] at h
  | succ d ih =>
    intro l e h c hc
    unfold chk at h
    split at h
    · cases h
    · rcases List.mem_cons.mp h with h | h
      · subst h; exact List.mem_of_mem_take hc
      · exact List.mem_of_mem_drop (ih _ _ h c hc)
def bodL (L : List (List UInt8)) : List UInt8 := (L.map fun e => e ++ [10]).flatten
def begL : List UInt8 := [45, 45, 45, 45, 45, 66, 69, 71, 73, 78, 32]
def endL : List UInt8 := [45, 45, 45, 45, 45, 69, 78, 68, 32]
def dshL : List UInt8 := [45, 45, 45, 45, 45, 10]
def armS (S : List UInt8) : List UInt8 := bodL (chk 64 800 S)
def armL (n S : List UInt8) : List UInt8 := begL ++ n ++ dshL ++ armS S ++ endL ++ n ++ dshL
/-- the lines of a text, cut at 10 -/
def spA (cur : List UInt8) : List UInt8 → List (List UInt8)
  | [] => [cur]
  | b :: l => if b = 10 then cur :: spA [] l else spA (cur ++ [b]) l
theorem spA_over : ∀ (p cur l : List UInt8), (∀ c ∈ p, c ≠ 10) → spA cur (p ++ 10 :: l) = (cur ++ p) :: spA [] l := by
  intro p
  induction p with
  | nil => intro cur l _; simp [spA]
  | cons b p ih =>
    intro cur l h
    rw [List.cons_append, spA, if_neg (h b (List.mem_cons_self ..)), ih _ _ (fun c hc => h c (List.mem_cons_of_mem _ hc)), List.append_assoc]
    rfl
theorem spA_bod : ∀ (L : List (List UInt8)) (l : List UInt8), (∀ e ∈ L, ∀ c ∈ e, c ≠ 10) → spA [] (bodL L ++ l) = L ++ spA [] l := by
  intro L
  induction L with
  | nil => intro l _; rfl
  | cons e L ih =>
    intro l h
    have : bodL (e :: L) ++ l = e ++ 10 :: (bodL L ++ l) := by unfold bodL; simp
    rw [this, spA_over _ _ _ (h e (List.mem_cons_self ..)), List.nil_append, ih l (fun e' he => h e' (List.mem_cons_of_mem _ he))]
    rfl
theorem spA_flat : ∀ (l cur : List UInt8), (spA cur l).flatten.length ≤ cur.length + l.length := by
  intro l
  induction l with
  | nil => intro cur; simp [spA]
  | cons b l ih =>
    intro cur
    unfold spA
    split
    · rw [List.flatten_cons, List.length_append]
      have := ih []
      simp only [List.length_nil, List.length_cons] at *
      omega
    · have := ih (cur ++ [b])
      simp only [List.length_append, List.length_cons, List.length_nil] at *
      omega
theorem spA_len : ∀ (l cur : List UInt8), (spA cur l).length ≤ 1 + l.length := by
  intro l
  induction l with
  | nil => intro cur; simp [spA]
  | cons b l ih =>
    intro cur
    unfold spA
    split
    · rw [List.length_cons]; have := ih []; rw [List.length_cons]; omega
    · have := ih (cur ++ [b]); rw [List.length_cons]; omega
theorem spA_arm (n S : List UInt8) (hn : ∀ c ∈ n, c ≠ 10) (hS : ∀ c ∈ S, c ≠ 10) : spA [] (armL n S) = (begL ++ n ++ [45, 45, 45, 45, 45]) :: (chk 64 800 S ++ [endL ++ n ++ [45, 45, 45, 45, 45], []]) := by
  have e1 : armL n S = (begL ++ n ++ [45, 45, 45, 45, 45]) ++ 10 :: (bodL (chk 64 800 S) ++ ((endL ++ n ++ [45, 45, 45, 45, 45]) ++ 10 :: [])) := by
    unfold armL armS dshL; simp [List.append_assoc]
  have hb : ∀ (p : List UInt8), (∀ c ∈ p, c ≠ 10) → ∀ c ∈ p ++ n ++ [45, 45, 45, 45, 45], c ≠ 10 := by
    intro p hp c hc
    rcases List.mem_append.mp hc with h | h
    · rcases List.mem_append.mp h with h | h
      · exact hp c h
      · exact hn c h
    · exact (by decide : ∀ c ∈ ([45, 45, 45, 45, 45] : List UInt8), c ≠ 10) c h
  rw [e1, spA_over _ _ _ (hb begL (by decide)), spA_bod _ _ (fun e he c hc => hS c (chk_mem _ _ _ _ he c hc)), spA_over _ _ _ (hb endL (by decide))]
  rfl
/-- the letters of a name -/
def okN (n : List UInt8) : Prop := (∀ c ∈ n, 65 ≤ c.toNat ∧ c.toNat ≤ 90) ∧ 1 ≤ n.length ∧ n.length ≤ 16
theorem okN_ne {n : List UInt8} (h : okN n) : ∀ c ∈ n, c ≠ 10 := by
  intro c hc e
  have := (h.1 c hc).1
  subst e
  exact absurd this (by decide)
theorem sgT_ne : ∀ j : Fin 64, sgT j.val ≠ 10 ∧ sgT j.val ≠ 45 := by decide +kernel
theorem sgC_ne (g : List UInt8) (i : Nat) : sgC g i ≠ 10 ∧ sgC g i ≠ 45 := by
  unfold sgC
  split
  · decide
  · exact sgT_ne ⟨sgN g 3 / 2 ^ (18 - 6 * i) % 64, Nat.mod_lt _ (by omega)⟩
theorem sgL_ne : ∀ (k : Nat) (l : List UInt8), ∀ c ∈ sgL k l, c ≠ 10 ∧ c ≠ 45 := by
  intro k
  induction k with
  | zero => intro l c hc; cases hc
  | succ k ih =>
    intro l c hc
    unfold sgL at hc
    split at hc
    · cases hc
    · rcases List.mem_append.mp hc with h | h
      · simp only [sgG, List.mem_cons, List.not_mem_nil, or_false] at h
        rcases h with h | h | h | h <;> (subst h; exact sgC_ne _ _)
      · exact ih _ c h
theorem sgE_ne (l : List UInt8) : ∀ c ∈ sgE l, c ≠ 10 ∧ c ≠ 45 := sgL_ne _ _
theorem occ_get {s sub : List UInt8} {j : Nat} (h : Lib.occAt s sub j = true) (i : Nat) (hi : i < sub.length) : s[j + i]? = sub[i]? := by
  unfold Lib.occAt at h
  obtain ⟨t, ht⟩ := List.isPrefixOf_iff_prefix.mp h
  rw [← List.getElem?_drop, ← ht, List.getElem?_append_left hi]
theorem occ_app (p sub l : List UInt8) : Lib.occAt (p ++ sub ++ l) sub p.length = true := by
  unfold Lib.occAt
  rw [List.append_assoc, List.drop_left]
  exact List.isPrefixOf_iff_prefix.mpr ⟨l, rfl⟩
/-- the cut at a text none of whose instances begins before p's end -/
theorem cut_at (p sub l : List UInt8) (h : ∀ j, j < p.length → Lib.occAt (p ++ sub ++ l) sub j = false) : Lib.cut (p ++ sub ++ l) sub = (p, l, true) := by
  have e : Lib.index (p ++ sub ++ l) sub = (p.length : Int) := Lib.index_first (by simp) (occ_app p sub l) h
  unfold Lib.cut
  rw [e, if_pos (by omega), Int.toNat_natCast]
  congr 1
  · rw [List.append_assoc, List.take_left]
  · congr 1
    rw [show p.length + sub.length = (p ++ sub).length by rw [List.length_append], List.drop_left]
theorem cut_dsh (p l : List UInt8) (hp : ∀ c ∈ p, c ≠ 10) : Lib.cut (p ++ dshL ++ l) dshL = (p, l, true) := by
  refine cut_at p dshL l fun j hj => ?_
  cases hb : Lib.occAt (p ++ dshL ++ l) dshL j with
  | false => rfl
  | true =>
    exfalso
    have e := occ_get hb 5 (by decide)
    have e5 : dshL[5]? = some 10 := rfl
    rw [e5, List.append_assoc] at e
    by_cases h1 : j + 5 < p.length
    · rw [List.getElem?_append_left h1] at e
      exact hp 10 (List.mem_of_getElem? e) rfl
    · rw [List.getElem?_append_right (by omega), List.getElem?_append_left (by show _ < 6; omega)] at e
      have h2 : j + 5 - p.length < 5 := by omega
      generalize j + 5 - p.length = i at e h2
      have : ∀ i : Fin 5, dshL[i.val]? ≠ some 10 := by decide
      exact this ⟨i, h2⟩ e
theorem cut_end (p l : List UInt8) (hp : ∀ c ∈ p, c ≠ 45) : Lib.cut (p ++ endL ++ l) endL = (p, l, true) := by
  refine cut_at p endL l fun j hj => ?_
  cases hb : Lib.occAt (p ++ endL ++ l) endL j with
  | false => rfl
  | true =>
    exfalso
    have e := occ_get hb 0 (by decide)
    have e5 : endL[0]? = some 45 := rfl
    rw [e5, List.append_assoc, Nat.add_zero, List.getElem?_append_left hj] at e
    exact hp 45 (List.mem_of_getElem? e) rfl
theorem bod_ne45 (L : List (List UInt8)) (h : ∀ e ∈ L, ∀ c ∈ e, c ≠ 45) : ∀ c ∈ bodL L, c ≠ 45 := by
  intro c hc
  unfold bodL at hc
  obtain ⟨e, he, hc⟩ := List.mem_flatten.mp hc
  obtain ⟨e', he', rfl⟩ := List.mem_map.mp he
  rcases List.mem_append.mp hc with h1 | h1
  · exact h e' he' c h1
  · simp only [List.mem_singleton] at h1
    subst h1
    decide
/-- what is left when every 10 is dropped -/
theorem repl_skip (s : List UInt8) (k : Nat) (i : Nat) (h : Lib.index s [10] = i) : Lib.replaceK [10] [] (k + 1) s = s.take i ++ Lib.replaceK [10] [] k (s.drop (i + 1)) := by
  rw [Lib.replaceK_hit _ _ _ _ _ h, List.append_nil]
  rfl
theorem idx10 (p l : List UInt8) (hp : ∀ c ∈ p, c ≠ 10) : Lib.index (p ++ 10 :: l) [10] = (p.length : Int) := by
  have e : p ++ 10 :: l = p ++ [10] ++ l := by simp
  rw [e]
  refine Lib.index_first (by simp) (occ_app p [10] l) fun j hj => ?_
  cases hb : Lib.occAt (p ++ [10] ++ l) [10] j with
  | false => rfl
  | true =>
    exfalso
    have e := occ_get hb 0 (by decide)
    rw [List.append_assoc, Nat.add_zero, List.getElem?_append_left hj] at e
    exact hp 10 (List.mem_of_getElem? e) rfl
theorem repl_bod : ∀ (L : List (List UInt8)) (_ : ∀ e ∈ L, ∀ c ∈ e, c ≠ 10), Lib.count (bodL L) [10] = L.length ∧ Lib.replaceK [10] [] L.length (bodL L) = L.flatten := by
  intro L
  induction L with
  | nil => intro _; exact ⟨by unfold bodL; exact Lib.count_miss (by rfl), rfl⟩
  | cons e L ih =>
    intro h
    obtain ⟨i1, i2⟩ := ih fun e' he => h e' (List.mem_cons_of_mem _ he)
    have hi := idx10 e (bodL L) (h e (List.mem_cons_self ..))
    have hb : bodL (e :: L) = e ++ 10 :: bodL L := by unfold bodL; simp
    have hd : (e ++ 10 :: bodL L).drop (e.length + 1) = bodL L := by
      rw [show e ++ 10 :: bodL L = (e ++ [10]) ++ bodL L by simp, show e.length + 1 = (e ++ [10]).length by simp, List.drop_left]
    rw [hb]
    refine ⟨?_, ?_⟩
    · rw [Lib.count_hit (by decide) hi]
      show 1 + Lib.count ((e ++ 10 :: bodL L).drop (e.length + 1)) [10] = _
      rw [hd, i1, List.length_cons]
      omega
    · rw [List.length_cons, repl_skip _ _ _ hi, hd, i2, List.take_left]
      rfl
theorem repl_all (L : List (List UInt8)) (h : ∀ e ∈ L, ∀ c ∈ e, c ≠ 10) : Lib.replaceAll (bodL L) [10] [] = L.flatten := by
  obtain ⟨h1, h2⟩ := repl_bod L h
  have hn : Lib.replaceNum (bodL L) [10] (-1) = L.length := by
    unfold Lib.replaceNum
    rw [if_pos (Or.inl (by decide)), h1]
  unfold Lib.replaceAll Lib.replace
  rw [if_neg (by decide), hn, h2]


theorem lines_loop (s : ByteArray) (hs : s.size ≤ 800) (wide : Nat) (hw0 : 0 < wide) (hw : wide ≤ 100) : ∀ (d i : Nat) (acc : List ByteArray), i ≤ s.size → s.size - i ≤ d → acc.length ≤ i → (∀ e ∈ acc, e.size ≤ 800) →
    ∃ r, r.length ≤ 800 ∧ (∀ e ∈ r, e.size ≤ 800) ∧ (r.map fun e => e.data.toList) = (acc.map fun e => e.data.toList) ++ chk wide d (s.data.toList.drop i) ∧ Ev (fun k => spec_l3Lines.l0 k s (wide : Int) acc (i : Int)) r ∧ Ev (fun k => impl_linesOf.l0 k (s.extract i s.size) (wide : Int) acc) r := by
  intro d
  induction d with
  | zero =>
    intro i acc hi hd ha hb
    obtain rfl : i = s.size := by omega
    refine ⟨acc, by omega, hb, by simp [chk], Ev.step (f := fun _ => some _) (fun k => ?_) (Ev.now _), Ev.step (f := fun _ => some _) (fun k => ?_) (Ev.now _)⟩
    · simp only [spec_l3Lines.l0]
      rw [if_neg (by omega)]
    · simp only [impl_linesOf.l0]
      rw [if_pos (by rw [Lib.extract_toList]; simp)]
  | succ d ih =>
    intro i acc hi hd ha hb
    by_cases hlt : i < s.size
    · have hne : ¬ (s.extract i s.size).toList = ([] : List UInt8) := by
        intro h
        have := congrArg List.length h
        rw [Lib.extract_toList] at this
        have hsz := Lib.size_eq s
        simp at this
        simp at hsz
        omega
      have hwi : wrap64 ((i : Int) + (wide : Int)) = ((i + wide : Nat) : Int) := by unfold wrap64; omega
      have hex : (s.extract i s.size).size = s.size - i := by rw [ByteArray.size_extract]; omega
      have hbb : ∀ j, ∀ e ∈ acc ++ [s.extract i j], e.size ≤ 800 := by
        intro j e he
        rcases List.mem_append.mp he with h | h
        · exact hb e h
        · simp only [List.mem_singleton] at h
          subst h
          rw [ByteArray.size_extract]
          omega
      by_cases hlast : s.size < i + wide
      · -- the last line
        refine ⟨acc ++ [s.extract i s.size], by simp; omega, hbb _, ?_, ?_, ?_⟩
        · have hz := Lib.size_eq s
          have hne' : ¬ s.data.toList.drop i = [] := fun e => by have := congrArg List.length e; rw [List.length_drop] at this; simp only [List.length_nil] at this; omega
          rw [List.map_append, chk, if_neg hne', List.drop_drop, List.drop_eq_nil_of_le (i := i + wide) (by omega), chk_nil, List.take_of_length_le (by rw [List.length_drop]; omega)]
          simp only [List.map_cons, List.map_nil]
          rw [← Lib.toList_data, Lib.extract_toList, List.take_of_length_le (by rw [List.length_drop]; omega)]
        · refine Ev.step (f := fun k => spec_l3Lines.l0 k s (wide : Int) (acc ++ [s.extract i s.size]) ((i + wide : Nat) : Int)) (fun k => ?_) (Ev.step (f := fun _ => some _) (fun k => ?_) (Ev.now _))
          · simp only [spec_l3Lines.l0, hwi, spec_l1Least.f]
            rw [if_pos (by omega), if_pos (by omega)]
            simp only [Option.bind_some]
            rw [if_pos (by omega), if_pos (by omega), if_pos (by omega), if_pos (by omega)]
            simp
          · simp only [spec_l3Lines.l0]
            rw [if_neg (by omega)]
        · have hmn : mn (wide : Int) (((s.extract i s.size).size : Nat) : Int) = ((s.size - i : Nat) : Int) := by rw [hex]; unfold mn; rw [if_pos (by omega)]
          refine Ev.step (f := fun k => impl_linesOf.l0 k ((s.extract i s.size).extract (s.size - i) (s.size - i)) (wide : Int) (acc ++ [s.extract i s.size])) (fun k => ?_) (Ev.step (f := fun _ => some _) (fun k => ?_) (Ev.now _))
          · simp only [impl_linesOf.l0, hmn]
            rw [if_neg hne, if_pos (by omega), if_pos (by rw [hex]; exact Int.le_refl _), if_pos (by omega), hex, Int.toNat_natCast]
            congr 2
            rw [ByteArray.extract_extract]
            congr 2
            omega
          · simp only [impl_linesOf.l0]
            rw [if_pos (by rw [Lib.extract_toList]; simp)]
      · obtain ⟨r, hr, hrb, hrc, h1, h2⟩ := ih (i + wide) (acc ++ [s.extract i (i + wide)]) (by omega) (by omega) (by simp; omega) (hbb _)
        have hz := Lib.size_eq s
        have hne' : ¬ s.data.toList.drop i = [] := fun e => by have := congrArg List.length e; rw [List.length_drop] at this; simp only [List.length_nil] at this; omega
        refine ⟨r, hr, hrb, ?_, Ev.step (fun k => ?_) h1, Ev.step (fun k => ?_) h2⟩
        · rw [hrc, chk, if_neg hne', List.map_append, List.append_assoc, List.drop_drop]
          simp only [List.map_cons, List.map_nil]
          rw [← Lib.toList_data, Lib.extract_toList, Nat.add_sub_cancel_left]
          rfl
        · simp only [spec_l3Lines.l0, hwi, spec_l1Least.f]
          rw [if_pos (by omega), if_neg (by omega)]
          simp only [Option.bind_some]
          rw [if_pos (by omega), if_pos (by omega), if_pos (by omega), if_pos (by omega), Int.toNat_natCast, Int.toNat_natCast]
        · have hmn : mn (wide : Int) (((s.extract i s.size).size : Nat) : Int) = (wide : Int) := by rw [hex]; unfold mn; rw [if_neg (by omega)]
          simp only [impl_linesOf.l0, hmn]
          rw [if_neg hne, if_pos (by omega), if_pos (by rw [hex]; omega), if_pos (by omega), hex, Int.toNat_natCast, ByteArray.extract_extract, ByteArray.extract_extract]
          have e1 : min (i + (s.size - i)) s.size = s.size := by omega
          have e2 : min (i + wide) s.size = i + wide := by omega
          rw [e1, e2]
          rfl
    · obtain rfl : i = s.size := by omega
      obtain ⟨r, q1, q2, q3, q4⟩ := ih s.size acc hi (by omega) ha hb
      refine ⟨r, q1, q2, ?_, q4⟩
      have hz := Lib.size_eq s
      rw [q3, List.drop_eq_nil_of_le (by omega), chk_nil, chk_nil]

theorem chk_fuel (w : Nat) (hw : 0 < w) : ∀ (d d' : Nat) (l : List UInt8), l.length ≤ d → l.length ≤ d' → chk w d l = chk w d' l := by
  intro d
  induction d with
  | zero => intro d' l h _; have : l = [] := List.length_eq_zero_iff.mp (by omega); subst this; rw [chk_nil, chk_nil]
  | succ d ih =>
    intro d' l h h'
    by_cases h0 : l = []
    · subst h0; rw [chk_nil, chk_nil]
    · have hp : 0 < l.length := List.length_pos_iff.mpr h0
      cases d' with
      | zero => omega
      | succ d' =>
        rw [chk, chk, if_neg h0, if_neg h0, ih d' _ (by rw [List.length_drop]; omega) (by rw [List.length_drop]; omega)]
theorem lines_ev (s : ByteArray) (hs : s.size ≤ 800) : ∃ r, r.length ≤ 800 ∧ (∀ e ∈ r, e.size ≤ 800) ∧ (r.map fun e => e.data.toList) = chk 64 800 s.data.toList ∧ Ev (fun k => spec_l3Lines.f k s 64) r ∧ Ev (fun k => impl_linesOf.f k s 64) r := by
  obtain ⟨r, h1, h2, hc, h3, h4⟩ := lines_loop s hs 64 (by omega) (by omega) s.size 0 [] (by omega) (by omega) (by simp) (by simp)
  have e : s.extract 0 s.size = s := by simp
  rw [e] at h4
  have hz := Lib.size_eq s
  refine ⟨r, h1, h2, ?_, h3, h4⟩
  rw [hc, chk_fuel 64 (by omega) s.size 800 _ (by rw [List.drop_zero]; omega) (by rw [List.drop_zero]; omega)]
  rfl


theorem dap (a b : ByteArray) : (a ++ b).data.toList = a.data.toList ++ b.data.toList := by simp [ByteArray.data_append]
theorem sgE_size : ∀ (n : Nat) (l : List UInt8), l.length ≤ n → (sgE l).length = 4 * ((l.length + 2) / 3) := by
  intro n
  induction n using Nat.strongRecOn with
  | _ n ih =>
    intro l hl
    by_cases h : l = []
    · subst h; rfl
    · have hp : 0 < l.length := List.length_pos_iff.mpr h
      rw [sgE_step l h, List.length_append, ih (n - 1) (by omega) (l.drop 3) (by rw [List.length_drop]; omega), List.length_drop]
      have e4 : (sgG (l.take 3)).length = 4 := rfl
      omega

theorem armor_same : ∀ (k : Nat) (a b : ByteArray) (l : List ByteArray) (n i : Int), impl_armorOf.l0 k a b l n i = spec_l3Armor.l0 k a b l n i := by
  intro k
  induction k with
  | zero => intro a b l n i; rfl
  | succ k ih => intro a b l n i; simp only [impl_armorOf.l0, spec_l3Armor.l0, ih]

theorem armor_loop (a : ByteArray) (ha : a.size ≤ 16) (l : List ByteArray) (hl : l.length ≤ 800) (hb : ∀ e ∈ l, e.size ≤ 800) : ∀ (d i : Nat) (b : ByteArray), i + d = l.length → b.size ≤ 100 + 801 * i →
    ∃ r : ByteArray, r.data.toList = b.data.toList ++ bodL ((l.drop i).map fun e => e.data.toList) ++ endL ++ a.data.toList ++ dshL ∧ Ev (fun k => spec_l3Armor.l0 k a b l (l.length : Int) (i : Int)) r := by
  intro d
  induction d with
  | zero =>
    intro i b hi hbs
    have c1 : ¬ (i : Int) < (l.length : Int) := by omega
    have s9 : (⟨#[45, 45, 45, 45, 45, 69, 78, 68, 32]⟩ : ByteArray).size = 9 := rfl
    refine ⟨((b ++ (⟨#[45, 45, 45, 45, 45, 69, 78, 68, 32]⟩ : ByteArray)) ++ a) ++ (⟨#[45, 45, 45, 45, 45, 10]⟩ : ByteArray), ?_, Ev.step (f := fun _ => some _) (fun k => ?_) (Ev.now _)⟩
    · rw [List.drop_eq_nil_of_le (by omega), dap, dap, dap]
      simp only [List.map_nil, bodL, List.flatten_nil, List.append_nil]
      rfl
    simp only [spec_l3Armor.l0]
    rw [if_neg c1, if_pos (by omega), if_pos (by rw [ByteArray.size_append, s9]; omega), if_pos (by rw [ByteArray.size_append, ByteArray.size_append, s9]; omega)]
  | succ d ih =>
    intro i b hi hbs
    have c1 : (i : Int) < (l.length : Int) := by omega
    have c2 : (0 : Int) ≤ (i : Int) := by omega
    have hw : wrap64 ((i : Int) + 1) = ((i + 1 : Nat) : Int) := by unfold wrap64; omega
    have he : (rdOf ByteArray.empty l (i : Int)).size ≤ 800 := by
      unfold rdOf
      rw [List.getD_eq_getElem?_getD, Int.toNat_natCast, List.getElem?_eq_getElem (by omega)]
      exact hb _ (List.getElem_mem _)
    have s1 : (⟨#[10]⟩ : ByteArray).size = 1 := rfl
    have hsum : (rdOf ByteArray.empty l (i : Int) ++ (⟨#[10]⟩ : ByteArray)).size = (rdOf ByteArray.empty l (i : Int)).size + 1 := by rw [ByteArray.size_append, s1]
    obtain ⟨r, hrc, hr⟩ := ih (i + 1) (b ++ (rdOf ByteArray.empty l (i : Int) ++ (⟨#[10]⟩ : ByteArray))) (by omega) (by rw [ByteArray.size_append, hsum]; omega)
    refine ⟨r, ?_, Ev.step (fun k => ?_) hr⟩
    · have hrd : rdOf ByteArray.empty l (i : Int) = l[i]'(by omega) := by
        unfold rdOf
        rw [List.getD_eq_getElem?_getD, Int.toNat_natCast, List.getElem?_eq_getElem (by omega)]
        rfl
      rw [hrc, List.drop_eq_getElem_cons (by omega : i < l.length), dap, dap, hrd]
      unfold bodL
      simp only [List.map_cons, List.flatten_cons, List.append_assoc]
    simp only [spec_l3Armor.l0]
    rw [if_pos c1, if_pos c2, if_pos c1, if_pos (by omega), if_pos (by rw [hsum]; omega), hw]

theorem armor_ev (a s : ByteArray) (ha : a.size ≤ 16) (hs : s.size ≤ 600) : ∃ r : ByteArray, r.data.toList = armL a.data.toList (sgE s.data.toList) ∧ Ev (fun k => spec_l3Armor.f k a s) r ∧ Ev (fun k => impl_armorOf.f k a s) r := by
  have hsig := signs_ev s (by omega)
  have hsz : (⟨(sgE s.data.toList).toArray⟩ : ByteArray).size ≤ 800 := by
    show (sgE s.data.toList).toArray.size ≤ 800
    rw [List.size_toArray, sgE_size _ _ (Nat.le_refl _), ← Lib.size_eq]
    omega
  obtain ⟨l, hl, hb, hlc, h1, h2⟩ := lines_ev (⟨(sgE s.data.toList).toArray⟩ : ByteArray) hsz
  have s11 : (⟨#[45, 45, 45, 45, 45, 66, 69, 71, 73, 78, 32]⟩ : ByteArray).size = 11 := rfl
  have s6 : (⟨#[45, 45, 45, 45, 45, 10]⟩ : ByteArray).size = 6 := rfl
  obtain ⟨r, hrc, hr⟩ := armor_loop a ha l hl hb l.length 0 (((⟨#[45, 45, 45, 45, 45, 66, 69, 71, 73, 78, 32]⟩ : ByteArray) ++ a) ++ (⟨#[45, 45, 45, 45, 45, 10]⟩ : ByteArray)) (by omega) (by rw [ByteArray.size_append, ByteArray.size_append, s11, s6]; omega)
  replace hr : Ev (fun k => spec_l3Armor.l0 k a (((⟨#[45, 45, 45, 45, 45, 66, 69, 71, 73, 78, 32]⟩ : ByteArray) ++ a) ++ (⟨#[45, 45, 45, 45, 45, 10]⟩ : ByteArray)) l (l.length : Int) 0) r := hr
  have c1 : 11 + a.size ≤ 9223372036854775807 := by omega
  have c2 : ((⟨#[45, 45, 45, 45, 45, 66, 69, 71, 73, 78, 32]⟩ : ByteArray) ++ a).size + 6 ≤ 9223372036854775807 := by rw [ByteArray.size_append, s11]; omega
  have hsigi : impl_signsOf.f s = some (⟨(sgE s.data.toList).toArray⟩ : ByteArray) := by
    unfold impl_signsOf.f
    rw [if_pos (by omega)]
  refine ⟨r, ?_, Ev.congr (fun k => ?_) (Ev.bind hsig (f := fun k s' => (spec_l3Lines.f k s' 64).bind fun l => spec_l3Armor.l0 k a (((⟨#[45, 45, 45, 45, 45, 66, 69, 71, 73, 78, 32]⟩ : ByteArray) ++ a) ++ (⟨#[45, 45, 45, 45, 45, 10]⟩ : ByteArray)) l (l.length : Int) 0) (Ev.bind h1 (f := fun k l => spec_l3Armor.l0 k a (((⟨#[45, 45, 45, 45, 45, 66, 69, 71, 73, 78, 32]⟩ : ByteArray) ++ a) ++ (⟨#[45, 45, 45, 45, 45, 10]⟩ : ByteArray)) l (l.length : Int) 0) hr)), Ev.congr (fun k => ?_) (Ev.bind h2 (f := fun k l => spec_l3Armor.l0 k a (((⟨#[45, 45, 45, 45, 45, 66, 69, 71, 73, 78, 32]⟩ : ByteArray) ++ a) ++ (⟨#[45, 45, 45, 45, 45, 10]⟩ : ByteArray)) l (l.length : Int) 0) hr)⟩
  · rw [hrc, List.drop_zero, hlc, dap, dap]
    rfl
  · unfold spec_l3Armor.f
    rw [if_pos c1, if_pos c2]
  · unfold impl_armorOf.f
    rw [if_pos c1, if_pos c2, hsigi, Option.bind_some]
    simp only [armor_same]


theorem name_loop (s : ByteArray) (hs : s.size ≤ 2000000) : ∀ (d i : Nat), i + d = s.size → ∃ b, Ev (fun k => spec_l3Name.l0 k s (i : Int)) b ∧ Ev (fun k => impl_isArmorName.l0 k s (s.size : Int) (i : Int)) b ∧ (b = true ↔ ((∀ c ∈ s.data.toList.drop i, 65 ≤ c.toNat ∧ c.toNat ≤ 90) ∧ 1 ≤ s.size ∧ s.size ≤ 16)) := by
  intro d
  induction d with
  | zero =>
    intro i hi
    have hn : ¬ (i : Int) < (s.size : Int) := by omega
    have hin : spec_l1In.f (s.size : Int) 1 16 = some (decide (1 ≤ s.size ∧ s.size ≤ 16)) := by
      unfold spec_l1In.f
      by_cases h : (s.size : Int) ≥ 1
      · rw [if_pos h]
        congr 1
        by_cases h2 : (s.size : Int) ≤ 16
        · rw [decide_eq_true h2, decide_eq_true (by omega)]
        · rw [decide_eq_false h2, decide_eq_false (by omega)]
      · rw [if_neg h, decide_eq_false (by omega)]
    have hwi : impl_within.f (s.size : Int) 1 16 = some (decide (1 ≤ s.size ∧ s.size ≤ 16)) := hin
    refine ⟨decide (1 ≤ s.size ∧ s.size ≤ 16), Ev.step (f := fun _ => some _) (fun k => ?_) (Ev.now _), Ev.step (f := fun _ => some _) (fun k => ?_) (Ev.now _), ?_⟩
    · simp only [spec_l3Name.l0]
      rw [if_neg hn, hin]
      rfl
    · simp only [impl_isArmorName.l0]
      rw [if_neg hn, hwi]
      rfl
    · have hz := Lib.size_eq s
      rw [List.drop_eq_nil_of_le (by omega)]
      simp
  | succ d ih =>
    intro i hi
    have c1 : (i : Int) < (s.size : Int) := by omega
    have c2 : (0 : Int) ≤ (i : Int) := by omega
    have hw : wrap64 ((i : Int) + 1) = ((i + 1 : Nat) : Int) := by unfold wrap64; omega
    have hz := Lib.size_eq s
    have hb0 : bt s (i : Int) = ((s.data.toList[i]'(by omega)).toNat : Int) := by
      rw [sg_bt s i (by omega), List.getD_eq_getElem?_getD, List.getElem?_eq_getElem (by omega)]
      rfl
    have hdr := List.drop_eq_getElem_cons (by omega : i < s.data.toList.length)
    by_cases h1 : bt s (i : Int) < 65
    · refine ⟨false, Ev.step (f := fun _ => some _) (fun k => ?_) (Ev.now _), Ev.step (f := fun _ => some _) (fun k => ?_) (Ev.now _), ⟨fun h => (by cases h), fun h => by have := h.1 _ (by rw [hdr]; exact List.mem_cons_self ..); omega⟩⟩
      · simp only [spec_l3Name.l0]; rw [if_pos c1, if_pos c2, if_pos h1]
      · simp only [impl_isArmorName.l0]; rw [if_pos c1, if_pos c2, if_pos c1, if_pos h1]
    · by_cases h2 : bt s (i : Int) > 90
      · refine ⟨false, Ev.step (f := fun _ => some _) (fun k => ?_) (Ev.now _), Ev.step (f := fun _ => some _) (fun k => ?_) (Ev.now _), ⟨fun h => (by cases h), fun h => by have := h.1 _ (by rw [hdr]; exact List.mem_cons_self ..); omega⟩⟩
        · simp only [spec_l3Name.l0]; rw [if_pos c1, if_pos c2, if_neg h1, if_pos h2]
        · simp only [impl_isArmorName.l0]; rw [if_pos c1, if_pos c2, if_pos c1, if_neg h1, if_pos h2]
      · obtain ⟨b, hs', hi', hb⟩ := ih (i + 1) (by omega)
        refine ⟨b, Ev.step (fun k => ?_) hs', Ev.step (fun k => ?_) hi', ?_⟩
        · simp only [spec_l3Name.l0]; rw [if_pos c1, if_pos c2, if_neg h1, if_neg h2, hw]
        · simp only [impl_isArmorName.l0]; rw [if_pos c1, if_pos c2, if_pos c1, if_neg h1, if_neg h2, hw]
        · rw [hb, hdr]
          simp only [List.mem_cons, forall_eq_or_imp]
          have : 65 ≤ (s.data.toList[i]'(by omega)).toNat ∧ (s.data.toList[i]'(by omega)).toNat ≤ 90 := by omega
          simp only [this, true_and, and_self]

theorem name_ev (s : ByteArray) (hs : s.size ≤ 2000000) : ∃ b, Ev (fun k => spec_l3Name.f k s) b ∧ Ev (fun k => impl_isArmorName.f k s) b ∧ (b = true ↔ okN s.data.toList) := by
  obtain ⟨b, h1, h2, h3⟩ := name_loop s hs s.size 0 (by omega)
  have hz := Lib.size_eq s
  refine ⟨b, h1, h2, ?_⟩
  rw [h3, List.drop_zero, hz]
  rfl


theorem flat_sub {L M : List (List UInt8)} (h : L.Sublist M) : L.flatten.length ≤ M.flatten.length := by
  induction h with
  | slnil => exact Nat.le_refl _
  | cons a _ ih => rw [List.flatten_cons, List.length_append]; omega
  | cons_cons a _ ih => rw [List.flatten_cons, List.flatten_cons, List.length_append, List.length_append]; omega
theorem ba_of (a : ByteArray) (l : List UInt8) (h : a.data.toList = l) : a = (⟨l.toArray⟩ : ByteArray) := by
  subst h; cases a; simp
theorem ext_tl (s : ByteArray) (a b : Nat) : (s.extract a b).data.toList = (s.data.toList.drop a).take (b - a) := by
  rw [← Lib.toList_data, Lib.extract_toList]
theorem split_loop (t : ByteArray) (ht : t.size ≤ 100000) : ∀ (d i st : Nat) (acc : List ByteArray), i + d = t.size → st ≤ i → acc.length ≤ st →
    ∃ r : List ByteArray, (r.map fun e => e.data.toList) = (acc.map fun e => e.data.toList) ++ spA ((t.data.toList.drop st).take (i - st)) (t.data.toList.drop i) ∧
      Ev (fun k => spec_l3Split.l0 k t 10 acc (st : Int) (i : Int)) r := by
  have hz := Lib.size_eq t
  intro d
  induction d with
  | zero =>
    intro i st acc hi hst hacc
    refine ⟨acc ++ [t.extract st t.size], ?_, Ev.step (f := fun _ => some _) (fun k => ?_) (Ev.now _)⟩
    · rw [List.drop_eq_nil_of_le (i := i) (by omega), spA, List.map_append]
      simp only [List.map_cons, List.map_nil]
      rw [ext_tl]
      have : i = t.size := by omega
      rw [this]
    · simp only [spec_l3Split.l0]
      rw [if_neg (by omega), if_pos (by omega), if_pos (by omega), if_pos (by omega), Int.toNat_natCast]
  | succ d ih =>
    intro i st acc hi hst hacc
    have hw : wrap64 ((i : Int) + 1) = ((i + 1 : Nat) : Int) := by unfold wrap64; omega
    have hlt : i < t.data.toList.length := by omega
    have hb0 : bt t (i : Int) = ((t.data.toList[i]'hlt).toNat : Int) := by
      rw [sg_bt t i (by omega), List.getD_eq_getElem?_getD, List.getElem?_eq_getElem hlt]
      rfl
    have hdr := List.drop_eq_getElem_cons hlt
    by_cases hb : t.data.toList[i]'hlt = 10
    · obtain ⟨r, h1, h2⟩ := ih (i + 1) (i + 1) (acc ++ [t.extract st i]) (by omega) (by omega) (by simp; omega)
      refine ⟨r, ?_, Ev.step (fun k => ?_) h2⟩
      · rw [h1, hdr, spA, if_pos hb, Nat.sub_self, List.take_zero, List.map_append, List.append_assoc]
        simp only [List.map_cons, List.map_nil]
        rw [ext_tl]
        rfl
      · have e10 : bt t (i : Int) = 10 := by rw [hb0, hb]; rfl
        simp only [spec_l3Split.l0]
        rw [if_pos (by omega), if_pos (by omega), if_pos e10, if_pos (by omega), if_pos (by omega), if_pos (by omega), if_pos (by omega), hw, Int.toNat_natCast, Int.toNat_natCast]
    · obtain ⟨r, h1, h2⟩ := ih (i + 1) st acc (by omega) (by omega) hacc
      refine ⟨r, ?_, Ev.step (fun k => ?_) h2⟩
      · rw [h1, hdr, spA, if_neg hb]
        congr 2
        rw [show i + 1 - st = (i - st) + 1 by omega, List.take_add_one, List.getElem?_drop, show st + (i - st) = i by omega, List.getElem?_eq_getElem hlt]
        rfl
      · have e10 : ¬ bt t (i : Int) = 10 := by
          rw [hb0]
          intro e
          apply hb
          have : (t.data.toList[i]'hlt).toNat = 10 := by omega
          exact UInt8.toNat_inj.mp this
        simp only [spec_l3Split.l0]
        rw [if_pos (by omega), if_pos (by omega), if_neg e10, hw]

theorem split_ev (t : ByteArray) (ht : t.size ≤ 100000) : ∃ r : List ByteArray, (r.map fun e => e.data.toList) = spA [] t.data.toList ∧ Ev (fun k => spec_l3Split.f k t 10) r := by
  obtain ⟨r, h1, h2⟩ := split_loop t ht t.size 0 0 [] (by omega) (by omega) (by simp)
  refine ⟨r, ?_, h2⟩
  rw [h1]
  simp

def failA : ByteArray × ByteArray × Bool := ((⟨#[]⟩ : ByteArray), (⟨#[]⟩ : ByteArray), false)
/-- t is the armor of name n and text S -/
def armOk (t n S : List UInt8) : Prop := okN n ∧ S.length ≤ 600 ∧ t = armL n (sgE S)
def specFin (k : Nat) (x0 x6 x7 : ByteArray) : Option (ByteArray × ByteArray × Bool) := (spec_l3Of.f k x7).bind fun bt140 => (if bt140.2 = true then ((spec_l3Name.f k x6).bind fun t142 => (if t142 = true then (if (bt140.1.size : Int) > 600 then (some ((⟨#[]⟩ : ByteArray), (⟨#[]⟩ : ByteArray), false)) else ((spec_l3Armor.f k x6 bt140.1).bind fun t143 => (if t143.toList = x0.toList then (some (x6, bt140.1, true)) else (some ((⟨#[]⟩ : ByteArray), (⟨#[]⟩ : ByteArray), false))))) else (some ((⟨#[]⟩ : ByteArray), (⟨#[]⟩ : ByteArray), false)))) else (some ((⟨#[]⟩ : ByteArray), (⟨#[]⟩ : ByteArray), false)))
def implFin (k : Nat) (a0 t165 t166 : ByteArray) (fl : Bool) : Option (ByteArray × ByteArray × Bool) := (impl_ofSigns.f k t166).bind fun bt167 => (if fl = true then (if bt167.2 = true then ((impl_isArmorName.f k t165).bind fun t169 => (if t169 = true then (if (bt167.1.size : Int) > 600 then (some ((⟨#[]⟩ : ByteArray), (⟨#[]⟩ : ByteArray), false)) else ((impl_armorOf.f k t165 bt167.1).bind fun t170 => (if t170.toList = a0.toList then (some (t165, bt167.1, true)) else (some ((⟨#[]⟩ : ByteArray), (⟨#[]⟩ : ByteArray), false))))) else (some ((⟨#[]⟩ : ByteArray), (⟨#[]⟩ : ByteArray), false)))) else (some ((⟨#[]⟩ : ByteArray), (⟨#[]⟩ : ByteArray), false))) else (some ((⟨#[]⟩ : ByteArray), (⟨#[]⟩ : ByteArray), false)))

theorem specFin_ev (t nm J : ByteArray) (hn : nm.size ≤ 100000) (hJ : J.size ≤ 100000) : ∃ v, Ev (fun k => specFin k t nm J) v ∧ (v = failA ∨ ∃ n S, armOk t.data.toList n S) ∧
    (∀ S, sgE S = J.data.toList → armOk t.data.toList nm.data.toList S → v = (nm, (⟨S.toArray⟩ : ByteArray), true)) := by
  obtain ⟨q, hq, hq1, hq2⟩ := spec_of J hJ
  obtain ⟨b, hb, _, hb2⟩ := name_ev nm (by omega)
  by_cases c : q.2 = true ∧ b = true ∧ q.1.size ≤ 600
  · obtain ⟨c1, c2, c3⟩ := c
    have hok := hb2.mp c2
    have hsz := Lib.size_eq nm
    obtain ⟨r, hr, hr1, _⟩ := armor_ev nm q.1 (by have := hok.2.2; omega) c3
    by_cases c4 : r.toList = t.toList
    · refine ⟨(nm, q.1, true), Ev.bind hq ?_, Or.inr ⟨nm.data.toList, q.1.data.toList, hok, by rw [← Lib.size_eq]; exact c3, ?_⟩, fun S h1 _ => ?_⟩
      · simp only [if_pos c1]
        refine Ev.bind hb ?_
        simp only [if_pos c2, if_neg (show ¬ ((q.1.size : Nat) : Int) > 600 by omega)]
        refine Ev.bind hr1 ?_
        simp only [if_pos c4]
        exact Ev.now _
      · rw [← hr, ← Lib.toList_data, ← Lib.toList_data, c4]
      · rw [hq2 S h1]
    · refine ⟨failA, Ev.bind hq ?_, Or.inl rfl, fun S h1 h2 => ?_⟩
      · simp only [if_pos c1]
        refine Ev.bind hb ?_
        simp only [if_pos c2, if_neg (show ¬ ((q.1.size : Nat) : Int) > 600 by omega)]
        refine Ev.bind hr1 ?_
        simp only [if_neg c4]
        exact Ev.now _
      · exfalso
        apply c4
        rw [Lib.toList_data, Lib.toList_data, hr, h2.2.2]
        have e := hq2 S h1
        rw [e]
  · refine ⟨failA, Ev.bind hq ?_, Or.inl rfl, fun S h1 h2 => ?_⟩
    · by_cases c1 : q.2 = true
      · simp only [if_pos c1]
        refine Ev.bind hb ?_
        by_cases c2 : b = true
        · simp only [if_pos c2, if_pos (show ((q.1.size : Nat) : Int) > 600 by have : ¬ q.1.size ≤ 600 := fun h => c ⟨c1, c2, h⟩; omega)]
          exact Ev.now _
        · simp only [if_neg c2]
          exact Ev.now _
      · simp only [if_neg c1]
        exact Ev.now _
    · exfalso
      apply c
      rw [hq2 S h1]
      refine ⟨rfl, hb2.mpr h2.1, ?_⟩
      show S.toArray.size ≤ 600
      rw [List.size_toArray]
      exact h2.2.1

theorem implFin_ev (t nm J : ByteArray) (fl : Bool) (hn : nm.size ≤ 100000) (hJ : J.size ≤ 100000) : ∃ v, Ev (fun k => implFin k t nm J fl) v ∧ (v = failA ∨ ∃ n S, armOk t.data.toList n S) ∧
    (∀ S, fl = true → sgE S = J.data.toList → armOk t.data.toList nm.data.toList S → v = (nm, (⟨S.toArray⟩ : ByteArray), true)) := by
  obtain ⟨q, hq, _, hq2⟩ := impl_of J hJ
  obtain ⟨b, _, hb, hb2⟩ := name_ev nm (by omega)
  cases fl with
  | false => exact ⟨failA, Ev.bind hq (by simp only [Bool.false_eq_true, if_false]; exact Ev.now _), Or.inl rfl, fun S h => by cases h⟩
  | true =>
  by_cases c : q.2 = true ∧ b = true ∧ q.1.size ≤ 600
  · obtain ⟨c1, c2, c3⟩ := c
    have hok := hb2.mp c2
    have hsz := Lib.size_eq nm
    obtain ⟨r, hr, _, hr1⟩ := armor_ev nm q.1 (by have := hok.2.2; omega) c3
    by_cases c4 : r.toList = t.toList
    · refine ⟨(nm, q.1, true), Ev.bind hq ?_, Or.inr ⟨nm.data.toList, q.1.data.toList, hok, by rw [← Lib.size_eq]; exact c3, ?_⟩, fun S _ h1 h2 => ?_⟩
      · simp only [if_true, if_pos c1]
        refine Ev.bind hb ?_
        simp only [if_pos c2, if_neg (show ¬ ((q.1.size : Nat) : Int) > 600 by omega)]
        refine Ev.bind hr1 ?_
        simp only [if_pos c4]
        exact Ev.now _
      · rw [← hr, ← Lib.toList_data, ← Lib.toList_data, c4]
      · rw [hq2 S h1 h2.2.1]
    · refine ⟨failA, Ev.bind hq ?_, Or.inl rfl, fun S _ h1 h2 => ?_⟩
      · simp only [if_true, if_pos c1]
        refine Ev.bind hb ?_
        simp only [if_pos c2, if_neg (show ¬ ((q.1.size : Nat) : Int) > 600 by omega)]
        refine Ev.bind hr1 ?_
        simp only [if_neg c4]
        exact Ev.now _
      · exfalso
        apply c4
        rw [Lib.toList_data, Lib.toList_data, hr, h2.2.2]
        have e := hq2 S h1 h2.2.1
        rw [e]
  · refine ⟨failA, Ev.bind hq ?_, Or.inl rfl, fun S _ h1 h2 => ?_⟩
    · by_cases c1 : q.2 = true
      · simp only [if_true, if_pos c1]
        refine Ev.bind hb ?_
        by_cases c2 : b = true
        · simp only [if_pos c2, if_pos (show ((q.1.size : Nat) : Int) > 600 by have : ¬ q.1.size ≤ 600 := fun h => c ⟨c1, c2, h⟩; omega)]
          exact Ev.now _
        · simp only [if_neg c2]
          exact Ev.now _
      · simp only [if_true, if_neg c1]
        exact Ev.now _
    · exfalso
      apply c
      rw [hq2 S h1 h2.2.1]
      refine ⟨rfl, hb2.mpr h2.1, ?_⟩
      show S.toArray.size ≤ 600
      rw [List.size_toArray]
      exact h2.2.1

theorem join_ev (x0 x6 : ByteArray) (L : List ByteArray) (hL : L.length ≤ 100000) (v : ByteArray × ByteArray × Bool) : ∀ (d i : Nat) (b : ByteArray), i + d = L.length →
    (b.data.toList ++ ((L.drop i).map fun e => e.data.toList).flatten).length ≤ 100000 →
    Ev (fun k => specFin k x0 x6 (⟨(b.data.toList ++ ((L.drop i).map fun e => e.data.toList).flatten).toArray⟩ : ByteArray)) v →
    Ev (fun k => spec_OfArmor.l0 k x0 x6 b L (L.length : Int) (i : Int)) v := by
  intro d
  induction d with
  | zero =>
    intro i b hi hb hv
    rw [List.drop_eq_nil_of_le (by omega)] at hv
    simp only [List.map_nil, List.flatten_nil, List.append_nil] at hv
    refine Ev.step (fun k => ?_) hv
    simp only [spec_OfArmor.l0]
    rw [if_neg (by omega)]
    have e : (⟨b.data.toList.toArray⟩ : ByteArray) = b := (ba_of b _ rfl).symm
    rw [e]
    rfl
  | succ d ih =>
    intro i b hi hb hv
    have hlt : i < L.length := by omega
    have hw : wrap64 ((i : Int) + 1) = ((i + 1 : Nat) : Int) := by unfold wrap64; omega
    have hrd : rdOf ByteArray.empty L (i : Int) = L[i]'hlt := by
      unfold rdOf
      rw [List.getD_eq_getElem?_getD, Int.toNat_natCast, List.getElem?_eq_getElem hlt]
      rfl
    have hfl : b.data.toList ++ ((L.drop i).map fun e => e.data.toList).flatten = (b ++ L[i]'hlt).data.toList ++ ((L.drop (i + 1)).map fun e => e.data.toList).flatten := by
      rw [List.drop_eq_getElem_cons hlt, dap, List.map_cons, List.flatten_cons, List.append_assoc]
    rw [hfl] at hb hv
    have hsz : b.size + (L[i]'hlt).size ≤ 100000 := by
      rw [dap] at hb
      simp only [List.length_append] at hb
      have h1 := Lib.size_eq b
      have h2 := Lib.size_eq (L[i]'hlt)
      omega
    refine Ev.step (fun k => ?_) (ih (i + 1) (b ++ L[i]'hlt) (by omega) hb hv)
    simp only [spec_OfArmor.l0]
    rw [if_pos (by omega), if_pos (by omega), if_pos (by omega), hrd, if_pos (by omega), hw]

theorem spec_ev (t : ByteArray) (ht : t.size ≤ 1000) : ∃ v, Ev (fun k => spec_OfArmor.f k t) v ∧ (v = failA ∨ ∃ n S, armOk t.data.toList n S) ∧
    (∀ n S, armOk t.data.toList n S → v = ((⟨n.toArray⟩ : ByteArray), (⟨S.toArray⟩ : ByteArray), true)) := by
  obtain ⟨r, hr, hE⟩ := split_ev t (by omega)
  have hz := Lib.size_eq t
  have hlen : r.length ≤ 1001 := by
    have := spA_len t.data.toList []
    rw [← hr, List.length_map] at this
    omega
  have hflat : (r.map fun e => e.data.toList).flatten.length ≤ 1000 := by
    have := spA_flat t.data.toList []
    rw [← hr, List.length_nil] at this
    omega
  have harm : ∀ n S, armOk t.data.toList n S → (r.map fun e => e.data.toList) = (begL ++ n ++ [45, 45, 45, 45, 45]) :: (chk 64 800 (sgE S) ++ [endL ++ n ++ [45, 45, 45, 45, 45], []]) := by
    intro n S h
    rw [hr, h.2.2]
    exact spA_arm n _ (okN_ne h.1) fun c hc => (sgE_ne S c hc).1
  have hj (b : Bool) : ∀ v, Ev (fun k => spec_OfArmor.j0 k t r b) v → (¬ r.length < 3 → b = decide (((rdOf ByteArray.empty r 0).size : Int) < 17)) → (r.length < 3 → b = true) → Ev (fun k => spec_OfArmor.f k t) v := by
    intro v hv h1 h2
    refine Ev.congr (fun k => by unfold spec_OfArmor.f; rw [if_neg (by omega)]) (Ev.bind hE ?_)
    by_cases h3 : r.length < 3
    · simp only [if_pos (show ((r.length : Nat) : Int) < 3 by omega)]
      rw [h2 h3] at hv
      exact hv
    · simp only [if_neg (show ¬ ((r.length : Nat) : Int) < 3 by omega), if_pos (show (0 : Int) < ((r.length : Nat) : Int) by omega)]
      rw [h1 h3] at hv
      exact hv
  by_cases h3 : r.length < 3
  · refine ⟨failA, hj true failA (Ev.step (f := fun _ => some _) (fun k => by simp only [spec_OfArmor.j0]; rw [if_pos trivial]; rfl) (Ev.now _)) (fun h => absurd h3 h) (fun _ => rfl), Or.inl rfl, fun n S h => ?_⟩
    exfalso
    have := congrArg List.length (harm n S h)
    simp at this
    omega
  · have hr0 : rdOf ByteArray.empty r 0 = r[0]'(by omega) := by
      show r.getD 0 ByteArray.empty = _
      rw [List.getD_eq_getElem?_getD, List.getElem?_eq_getElem (by omega)]
      rfl
    have h0 : ∀ n S, armOk t.data.toList n S → (r[0]'(by omega)).data.toList = begL ++ n ++ [45, 45, 45, 45, 45] := by
      intro n S h
      have e := congrArg (fun l => l[0]?) (harm n S h)
      simp only [List.getElem?_map, List.getElem?_cons_zero] at e
      rw [List.getElem?_eq_getElem (by omega)] at e
      exact Option.some.inj e
    have hs0 := Lib.size_eq (r[0]'(by omega))
    by_cases h17 : (r[0]'(by omega)).size < 17
    · refine ⟨failA, hj true failA (Ev.step (f := fun _ => some _) (fun k => by simp only [spec_OfArmor.j0]; rw [if_pos trivial]; rfl) (Ev.now _)) (fun _ => by rw [hr0, decide_eq_true (by omega)]) (fun _ => rfl), Or.inl rfl, fun n S h => ?_⟩
      exfalso
      have e := h0 n S h
      rw [hs0, e] at h17
      have := h.1.2.1
      simp only [List.length_append, begL, List.length_cons, List.length_nil] at h17
      omega
    · have hel : (r[0]'(by omega)).size ≤ 1000 := by
        have hm : (r[0]'(by omega)).data.toList ∈ r.map fun e => e.data.toList := List.mem_map.mpr ⟨_, List.getElem_mem _, rfl⟩
        have := (List.sublist_flatten_of_mem hm).length_le
        omega
      have hmid : (((r.take (r.length - 2)).drop 1).map fun e => e.data.toList).flatten.length ≤ 1000 := by
        refine Nat.le_trans (flat_sub (List.Sublist.map _ ?_)) hflat
        exact (List.drop_sublist _ _).trans (List.take_sublist _ _)
      obtain ⟨v, hv, hv1, hv2⟩ := specFin_ev t ((r[0]'(by omega)).extract 11 ((r[0]'(by omega)).size - 5)) (⟨(((r.take (r.length - 2)).drop 1).map fun e => e.data.toList).flatten.toArray⟩ : ByteArray)
        (by rw [ByteArray.size_extract]; omega) (by show (List.toArray _).size ≤ _; rw [List.size_toArray]; omega)
      refine ⟨v, hj false v (Ev.step (fun k => ?_) (join_ev t ((r[0]'(by omega)).extract 11 ((r[0]'(by omega)).size - 5)) ((r.take (r.length - 2)).drop 1) (by rw [List.length_drop, List.length_take]; omega) v ((r.take (r.length - 2)).drop 1).length 0 (⟨#[]⟩ : ByteArray) (by omega) (by rw [List.drop_zero]; show ([] ++ _).length ≤ _; rw [List.nil_append]; omega) (by rw [List.drop_zero]; exact hv))) (fun _ => by rw [hr0, decide_eq_false (by omega)]) (fun h => absurd h h3), hv1, fun n S h => ?_⟩
      · have w1 : wrap64 (((rdOf ByteArray.empty r 0).size : Int) - 5) = (((r[0]'(by omega)).size - 5 : Nat) : Int) := by rw [hr0]; unfold wrap64; omega
        have w2 : wrap64 ((r.length : Int) - 2) = ((r.length - 2 : Nat) : Int) := by unfold wrap64; omega
        simp only [spec_OfArmor.j0]
        rw [if_neg (by decide), if_pos (by omega), w1, w2, hr0, if_pos (by omega), if_pos (by omega), if_pos (by omega), if_pos (by omega), Option.bind_some, Int.toNat_natCast, Int.toNat_natCast]
        rfl
      · have e := h0 n S h
        have hnm : ((r[0]'(by omega)).extract 11 ((r[0]'(by omega)).size - 5)).data.toList = n := by
          rw [ext_tl, hs0, e, List.append_assoc]
          have : (begL ++ (n ++ [45, 45, 45, 45, 45])).drop 11 = n ++ [45, 45, 45, 45, 45] := List.drop_left' rfl
          rw [this]
          refine List.take_left' ?_
          simp only [List.length_append, begL, List.length_cons, List.length_nil]
          omega
        have hmidE : (((r.take (r.length - 2)).drop 1).map fun e => e.data.toList) = chk 64 800 (sgE S) := by
          have ha := harm n S h
          have hl := congrArg List.length ha
          simp only [List.length_map, List.length_cons, List.length_append, List.length_nil] at hl
          rw [List.map_drop, List.map_take, ha, show r.length - 2 = (chk 64 800 (sgE S)).length + 1 by omega, List.take_succ_cons, List.take_left' rfl]
          rfl
        have hS6 : (sgE S).length ≤ 800 := by
          rw [sgE_len S _ (Nat.le_refl _)]
          have := h.2.1
          omega
        have := hv2 S (by show sgE S = (List.toArray _).toList; rw [List.toList_toArray, hmidE, chk_flat 64 (by omega) 800 _ hS6]) (by rw [hnm]; exact h)
        rw [this, ba_of _ _ hnm]

theorem replaceK_le (old : List UInt8) : ∀ (k : Nat) (s : List UInt8), (Lib.replaceK old [] k s).length ≤ s.length := by
  intro k
  induction k with
  | zero => intro s; exact Nat.le_refl _
  | succ k ih =>
    intro s
    unfold Lib.replaceK
    split
    · exact Nat.le_refl _
    · have := ih (s.drop ((Lib.index s old).toNat + old.length))
      rw [List.append_nil, List.length_append, List.length_take]
      rw [List.length_drop] at this
      omega
theorem cut_le (s sep : List UInt8) : (Lib.cut s sep).1.length ≤ s.length ∧ (Lib.cut s sep).2.1.length ≤ s.length := by
  unfold Lib.cut
  split
  · exact ⟨by rw [List.length_take]; omega, by rw [List.length_drop]; omega⟩
  · exact ⟨Nat.le_refl _, Nat.zero_le _⟩

theorem impl_ev (t : ByteArray) (ht : t.size ≤ 1000) : ∃ v, Ev (fun k => impl_OfArmor.f k t) v ∧ (v = failA ∨ ∃ n S, armOk t.data.toList n S) ∧
    (∀ n S, armOk t.data.toList n S → v = ((⟨n.toArray⟩ : ByteArray), (⟨S.toArray⟩ : ByteArray), true)) := by
  have hz := Lib.size_eq t
  obtain ⟨l1, l2⟩ := cut_le t.data.toList dshL
  obtain ⟨l3, _⟩ := cut_le (Lib.cut t.data.toList dshL).2.1 endL
  have l4 := Lib.trimPrefix_le (Lib.cut t.data.toList dshL).1 begL
  have l5 : (Lib.replaceAll (Lib.cut (Lib.cut t.data.toList dshL).2.1 endL).1 [10] []).length ≤ (Lib.cut (Lib.cut t.data.toList dshL).2.1 endL).1.length := by
    unfold Lib.replaceAll Lib.replace
    rw [if_neg (by decide)]
    exact replaceK_le _ _ _
  obtain ⟨v, hv, hv1, hv2⟩ := implFin_ev t (⟨(Lib.trimPrefix (Lib.cut t.data.toList dshL).1 begL).toArray⟩ : ByteArray) (⟨(Lib.replaceAll (Lib.cut (Lib.cut t.data.toList dshL).2.1 endL).1 [10] []).toArray⟩ : ByteArray) (Lib.cut (Lib.cut t.data.toList dshL).2.1 endL).2.2
    (by show (List.toArray _).size ≤ _; rw [List.size_toArray]; omega) (by show (List.toArray _).size ≤ _; rw [List.size_toArray]; omega)
  refine ⟨v, Ev.congr (fun k => ?_) hv, hv1, fun n S h => ?_⟩
  · have c1 : strings_Cut.f t (⟨#[45, 45, 45, 45, 45, 10]⟩ : ByteArray) = some ((⟨(Lib.cut t.data.toList dshL).1.toArray⟩ : ByteArray), (⟨(Lib.cut t.data.toList dshL).2.1.toArray⟩ : ByteArray), (Lib.cut t.data.toList dshL).2.2) := by
      unfold strings_Cut.f
      rw [if_pos (by omega)]
      rfl
    have c2 : strings_Cut.f (⟨(Lib.cut t.data.toList dshL).2.1.toArray⟩ : ByteArray) (⟨#[45, 45, 45, 45, 45, 69, 78, 68, 32]⟩ : ByteArray) = some ((⟨(Lib.cut (Lib.cut t.data.toList dshL).2.1 endL).1.toArray⟩ : ByteArray), (⟨(Lib.cut (Lib.cut t.data.toList dshL).2.1 endL).2.1.toArray⟩ : ByteArray), (Lib.cut (Lib.cut t.data.toList dshL).2.1 endL).2.2) := by
      unfold strings_Cut.f
      rw [if_pos (by show (List.toArray _).size ≤ _; rw [List.size_toArray]; omega)]
      rfl
    have c3 : strings_ReplaceAll.f (⟨(Lib.cut (Lib.cut t.data.toList dshL).2.1 endL).1.toArray⟩ : ByteArray) (⟨#[10]⟩ : ByteArray) (⟨#[]⟩ : ByteArray) = some (⟨(Lib.replaceAll (Lib.cut (Lib.cut t.data.toList dshL).2.1 endL).1 [10] []).toArray⟩ : ByteArray) := by
      unfold strings_ReplaceAll.f
      rw [if_pos ⟨rfl, rfl, by show (List.toArray _).size ≤ _; rw [List.size_toArray]; omega⟩]
    have c4 : strings_TrimPrefix.f (⟨(Lib.cut t.data.toList dshL).1.toArray⟩ : ByteArray) (⟨#[45, 45, 45, 45, 45, 66, 69, 71, 73, 78, 32]⟩ : ByteArray) = some (⟨(Lib.trimPrefix (Lib.cut t.data.toList dshL).1 begL).toArray⟩ : ByteArray) := rfl
    unfold impl_OfArmor.f
    rw [if_neg (by omega), c1, Option.bind_some]
    dsimp only
    rw [c2, Option.bind_some, c4, Option.bind_some, c3, Option.bind_some]
    rfl
  · have e1 : t.data.toList = (begL ++ n ++ [45, 45, 45, 45, 45]).take (11 + n.length) ++ dshL ++ (armS (sgE S) ++ endL ++ (n ++ dshL)) := by
      rw [h.2.2, List.take_left' (by simp [begL]; omega)]
      unfold armL
      simp only [List.append_assoc]
    rw [List.take_left' (by simp [begL]; omega)] at e1
    have d1 : Lib.cut t.data.toList dshL = (begL ++ n, armS (sgE S) ++ endL ++ (n ++ dshL), true) := by
      rw [e1]
      refine cut_dsh _ _ fun c hc => ?_
      rcases List.mem_append.mp hc with h1 | h1
      · exact (by decide : ∀ c ∈ begL, c ≠ 10) c h1
      · exact okN_ne h.1 c h1
    have d2 : Lib.cut (armS (sgE S) ++ endL ++ (n ++ dshL)) endL = (armS (sgE S), n ++ dshL, true) :=
      cut_end _ _ (bod_ne45 _ fun e he c hc => (sgE_ne S c (chk_mem _ _ _ _ he c hc)).2)
    have hS6 : (sgE S).length ≤ 800 := by
      rw [sgE_len S _ (Nat.le_refl _)]
      have := h.2.1
      omega
    have d3 : Lib.replaceAll (armS (sgE S)) [10] [] = sgE S := by
      unfold armS
      rw [repl_all _ fun e he c hc => (sgE_ne S c (chk_mem _ _ _ _ he c hc)).1, chk_flat 64 (by omega) 800 _ hS6]
    have d4 : Lib.trimPrefix (begL ++ n) begL = n := by
      unfold Lib.trimPrefix Lib.hasPrefix
      rw [if_pos (List.isPrefixOf_iff_prefix.mpr ⟨n, rfl⟩), List.drop_left]
    simp only [d1, d2, d3, d4] at hv2
    have := hv2 S trivial (List.toList_toArray.symm) (by rw [List.toList_toArray]; exact h)
    rw [this]

theorem oa_both (t : ByteArray) : ∃ r, Ev (fun k => spec_OfArmor.f k t) r ∧ Ev (fun k => impl_OfArmor.f k t) r := by
  by_cases h : t.size ≤ 1000
  · obtain ⟨v, h1, h2, h3⟩ := spec_ev t h
    obtain ⟨w, h4, h5, h6⟩ := impl_ev t h
    by_cases hx : ∃ n S, armOk t.data.toList n S
    · obtain ⟨n, S, hx⟩ := hx
      rw [h3 n S hx] at h1
      rw [h6 n S hx] at h4
      exact ⟨_, h1, h4⟩
    · rw [h2.resolve_right hx] at h1
      rw [h5.resolve_right hx] at h4
      exact ⟨_, h1, h4⟩
  · exact ⟨failA, Ev.congr (fun k => by unfold spec_OfArmor.f; rw [if_pos (by omega)]; rfl) (Ev.now _), Ev.congr (fun k => by unfold impl_OfArmor.f; rw [if_pos (by omega)]; rfl) (Ev.now _)⟩


theorem FnExactOfArmor : laws_FnExactOfArmor.Pure := by
  intro t _
  by_cases h : (t.size : Int) > 1048576
  · exact ⟨0, by unfold laws_FnExactOfArmor.f; rw [if_pos h]⟩
  · obtain ⟨r, h1, h2⟩ := oa_both t
    refine Ev.rounds (Ev.congr (fun k => by unfold laws_FnExactOfArmor.f; rw [if_neg h]) (Ev.bind h1 (Ev.bind h2 ?_)))
    simp only [if_true, bne_self_eq_false, Bool.false_eq_true, if_false]
    exact Ev.now _

end Go.Proofs.YtmajmplhojlhbaaDoor.Pure
