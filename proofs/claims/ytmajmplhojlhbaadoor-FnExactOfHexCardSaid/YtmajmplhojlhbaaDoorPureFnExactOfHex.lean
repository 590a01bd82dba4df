/- The law FnExactOfHex answers true for every text. No condition. -/
import Derived.Test.YtmajmplhojlhbaaDoorSFnExactOfHexx4
namespace Go.Proofs.YtmajmplhojlhbaaDoor.Pure
open Go.RowKit Go.Proofs.YtmajmplhojlhbaaDoor.SFnExactOfHex Go.Proofs.YtmajmplhojlhbaaDoorW.PrintWords Go.Proofs.YtmajmplhojlhbaaDoorW.PrintLast Go.Proofs.YtmajmplhojlhbaaDoorW.PrintMore

/-- what a hex digit is worth to the library (upper letters, too) -/
def pv (c : Int) : Option Int := if 48 ≤ c ∧ c ≤ 57 then some (c - 48) else if 97 ≤ Go.bits .or .u8 c 32 ∧ Go.bits .or .u8 c 32 ≤ 102 then some (Go.bits .or .u8 c 32 - 87) else none
theorem pv_bd {c v : Int} (h : pv c = some v) : 0 ≤ v ∧ v < 16 := by
  unfold pv at h
  split at h
  · obtain rfl := Option.some.inj h
    omega
  · split at h
    · obtain rfl := Option.some.inj h
      omega
    · cases h
/-- what it is worth to the statement's text (small letters alone) -/
def sv (c : Int) : Option Int := if 48 ≤ c ∧ c ≤ 57 then some (c - 48) else if 97 ≤ c ∧ c ≤ 102 then some (c - 87) else none
theorem sv_bd {c v : Int} (h : sv c = some v) : 0 ≤ v ∧ v < 16 := by
  unfold sv at h
  split at h
  · obtain rfl := Option.some.inj h
    omega
  · split at h
    · obtain rfl := Option.some.inj h
      omega
    · cases h
theorem sv_dig : ∀ n : Fin 16, sv ((hexD n.val).toNat : Int) = some (n.val : Int) := by decide +kernel
theorem pv_dig : ∀ n : Fin 16, pv ((hexD n.val).toNat : Int) = some (n.val : Int) := by decide +kernel
theorem dig_sv (b : UInt8) (v : Int) (h : sv (b.toNat : Int) = some v) : hexD v.toNat = b := by
  have hv := sv_bd h
  unfold sv at h
  unfold hexD
  apply UInt8.toNat_inj.mp
  split at h
  · obtain rfl := Option.some.inj h
    rw [if_pos (by omega), UInt8.toNat_ofNat']
    omega
  · split at h
    · obtain rfl := Option.some.inj h
      rw [if_neg (by omega), UInt8.toNat_ofNat']
      omega
    · cases h
/-- the digits of two letters -/
def two (f : Int → Option Int) (c d : UInt8) : Option UInt8 := (f (c.toNat : Int)).bind fun x => (f (d.toNat : Int)).map fun y => UInt8.ofNat (16 * x + y).toNat
theorem two_dig (f : Int → Option Int) (hf : ∀ n : Fin 16, f ((hexD n.val).toNat : Int) = some (n.val : Int)) (b : UInt8) : two f (hexD (b.toNat / 16)) (hexD (b.toNat % 16)) = some b := by
  have hb := b.toNat_lt
  have h1 : b.toNat / 16 < 16 := by omega
  have h2 : b.toNat % 16 < 16 := by omega
  unfold two
  rw [hf ⟨b.toNat / 16, h1⟩, hf ⟨b.toNat % 16, h2⟩]
  show some _ = some b
  congr 1
  apply UInt8.toNat_inj.mp
  rw [UInt8.toNat_ofNat']
  show (16 * ((b.toNat / 16 : Nat) : Int) + ((b.toNat % 16 : Nat) : Int)).toNat % 2 ^ 8 = b.toNat
  omega
theorem two_sv {c d b : UInt8} (h : two sv c d = some b) : c = hexD (b.toNat / 16) ∧ d = hexD (b.toNat % 16) := by
  unfold two at h
  obtain ⟨x, hx, h⟩ := Option.bind_eq_some_iff.mp h
  obtain ⟨y, hy, h⟩ := Option.map_eq_some_iff.mp h
  have h1 := sv_bd hx
  have h2 := sv_bd hy
  have e : b.toNat = (16 * x + y).toNat := by
    rw [← h, UInt8.toNat_ofNat']
    omega
  rw [← dig_sv c x hx, ← dig_sv d y hy]
  exact ⟨congrArg hexD (by omega), congrArg hexD (by omega)⟩

/-! the library's ParseUint at base 16, 8 bits -/
abbrev PU (k : Nat) (s : ByteArray) (X : Int) (Y : List Int) (i : Int) := strconv_ParseUint_45.l0 k 16 false s 1152921504606846976 255 false X Y (Y.length : Int) i
theorem u64_id (z : Int) (h0 : 0 ≤ z) (h1 : z < 18446744073709551616) : IntKind.u64.wrap z = z := by
  show z % 18446744073709551616 = z
  omega
theorem pu_step (s : ByteArray) (X : Int) (hX : 0 ≤ X) (hX1 : X < 16) (Y : List Int) (i : Nat) (hi : i < Y.length) (hl : Y.length ≤ 1000) (hc : 0 ≤ rd Y (i : Int) ∧ rd Y (i : Int) < 256) :
    (∀ v, pv (rd Y (i : Int)) = some v → ∀ r, Ev (fun k => PU k s (16 * X + v) Y ((i + 1 : Nat) : Int)) r → Ev (fun k => PU k s X Y (i : Int)) r) ∧
    (pv (rd Y (i : Int)) = none → Ev (fun k => PU k s X Y (i : Int)) (0, some 2)) := by
  have hw : wrap64 ((i : Int) + 1) = ((i + 1 : Nat) : Int) := by unfold wrap64; omega
  have w16 : IntKind.u64.wrap 16 = 16 := rfl
  have h7 : ∀ r, Ev (fun k => strconv_ParseUint_45.j7 k 16 false s 1152921504606846976 255 false X (rd Y (i : Int)) Y (Y.length : Int) (i : Int) false) r → Ev (fun k => PU k s X Y (i : Int)) r := by
    intro r h
    refine Ev.step (fun k => ?_) h
    simp only [PU, strconv_ParseUint_45.l0]
    rw [if_pos (by omega), if_pos (by omega), if_pos (by omega)]
    by_cases h95 : rd Y (i : Int) = 95
    · rw [if_pos h95]
    · rw [if_neg h95]
  have h8 : ∀ r, Ev (fun k => strconv_ParseUint_45.j8 k 16 false s 1152921504606846976 255 false X (rd Y (i : Int)) Y (Y.length : Int) (i : Int) (decide (48 ≤ rd Y (i : Int) ∧ rd Y (i : Int) ≤ 57))) r → Ev (fun k => PU k s X Y (i : Int)) r := by
    intro r h
    refine h7 r (Ev.step (fun k => ?_) h)
    simp only [strconv_ParseUint_45.j7]
    rw [if_neg (by decide)]
    by_cases h48 : 48 ≤ rd Y (i : Int)
    · rw [if_pos h48]
      congr 1
      by_cases h57 : rd Y (i : Int) ≤ 57
      · rw [decide_eq_true h57, decide_eq_true ⟨h48, h57⟩]
      · rw [decide_eq_false h57, decide_eq_false (fun h => h57 h.2)]
    · rw [if_neg h48, decide_eq_false (fun h => h48 h.1)]
  have h9 : ∀ v, 0 ≤ v → v < 16 → ∀ r, Ev (fun k => PU k s (16 * X + v) Y ((i + 1 : Nat) : Int)) r → Ev (fun k => strconv_ParseUint_45.j9 k 16 false s 1152921504606846976 255 false X v Y (Y.length : Int) (i : Int)) r := by
    intro v v0 v1 r h
    have e1 : IntKind.u64.wrap (X * 16) = X * 16 := u64_id _ (by omega) (by omega)
    have e2 : IntKind.u64.wrap v = v := u64_id _ (by omega) (by omega)
    have e3 : IntKind.u64.wrap (X * 16 + v) = 16 * X + v := by rw [u64_id _ (by omega) (by omega)]; omega
    refine Ev.step (fun k => ?_) h
    simp only [strconv_ParseUint_45.j9, w16, e1, e2, e3, hw]
    rw [if_neg (by omega), if_neg (by omega), if_neg (by omega), if_neg (by omega)]
  by_cases hd : 48 ≤ rd Y (i : Int) ∧ rd Y (i : Int) ≤ 57
  · have e : pv (rd Y (i : Int)) = some (rd Y (i : Int) - 48) := by unfold pv; rw [if_pos hd]
    refine ⟨fun v hv r h => h8 r (Ev.step (fun k => ?_) (h9 v (pv_bd hv).1 (pv_bd hv).2 r h)), fun h => by rw [e] at h; cases h⟩
    rw [e] at hv
    obtain rfl := Option.some.inj hv
    simp only [strconv_ParseUint_45.j8]
    rw [if_pos (decide_eq_true hd), show (rd Y (i : Int) - 48) % 256 = rd Y (i : Int) - 48 by omega]
  · have hlow : strconv_lower.f (rd Y (i : Int)) = some (Go.bits .or .u8 (rd Y (i : Int)) 32) := rfl
    obtain ⟨t, ht⟩ : ∃ t, Go.bits .or .u8 (rd Y (i : Int)) 32 = t := ⟨_, rfl⟩
    have e : pv (rd Y (i : Int)) = if 97 ≤ t ∧ t ≤ 102 then some (t - 87) else none := by unfold pv; rw [if_neg hd, ht]
    rw [ht] at hlow
    have h8' : ∀ (f : Nat → Option (Int × Option Int)) r, (∀ k, strconv_ParseUint_45.j8 (k + 1) 16 false s 1152921504606846976 255 false X (rd Y (i : Int)) Y (Y.length : Int) (i : Int) false = f k) → Ev f r → Ev (fun k => PU k s X Y (i : Int)) r := by
      intro f r hf h
      refine h8 r (Ev.step (fun k => ?_) h)
      rw [decide_eq_false hd]
      exact hf k
    rw [e]
    by_cases h97 : 97 ≤ t
    · by_cases h122 : t ≤ 122
      · have hj : ∀ r, Ev (fun k => strconv_ParseUint_45.j9 k 16 false s 1152921504606846976 255 false X (t - 87) Y (Y.length : Int) (i : Int)) r → Ev (fun k => PU k s X Y (i : Int)) r := by
          intro r h
          refine h8' _ r (fun k => ?_) h
          simp only [strconv_ParseUint_45.j8, hlow, Option.bind_some]
          rw [if_neg (by decide), if_pos h97, if_pos h122, show ((t - 97) % 256 + 10) % 256 = t - 87 by omega]
        by_cases h102 : t ≤ 102
        · rw [if_pos ⟨h97, h102⟩]
          refine ⟨fun v hv r h => hj r (h9 _ (by omega) (by omega) r ?_), fun h => by cases h⟩
          rw [Option.some.inj hv]
          exact h
        · rw [if_neg (fun h => h102 h.2)]
          refine ⟨fun v hv => (by cases hv), fun _ => hj _ (Ev.step (f := fun _ => some _) (fun k => ?_) (Ev.now _))⟩
          simp only [strconv_ParseUint_45.j9]
          rw [if_pos (by omega)]
      · rw [if_neg (fun h => by omega)]
        refine ⟨fun v hv => (by cases hv), fun _ => h8' (fun _ => some _) _ (fun k => ?_) (Ev.now _)⟩
        simp only [strconv_ParseUint_45.j8, hlow, Option.bind_some]
        rw [if_neg (by decide), if_pos h97, if_neg h122]
    · rw [if_neg (fun h => by omega)]
      refine ⟨fun v hv => (by cases hv), fun _ => h8' (fun _ => some _) _ (fun k => ?_) (Ev.now _)⟩
      simp only [strconv_ParseUint_45.j8, hlow, Option.bind_some]
      rw [if_neg (by decide), if_neg h97]

theorem pu_ev (s : ByteArray) (c d : UInt8) (hs : s.data.toList = [c, d]) :
    ∃ q : Int × Option Int, Ev (fun k => strconv_ParseUint_28.f k s 16 8) q ∧ ((∃ b : UInt8, two pv c d = some b ∧ q = ((b.toNat : Int), none)) ∨ (two pv c d = none ∧ q = (0, some 2))) := by
  have hsz : s.size = 2 := by rw [Lib.size_eq, hs]; rfl
  have hn : numsB s = [(c.toNat : Int), (d.toNat : Int)] := by unfold numsB; rw [hs]; rfl
  have hcl := c.toNat_lt
  have hdl := d.toNat_lt
  have hwide : ∀ q, Ev (fun k => PU k s 0 (numsB s) 0) q → (q.2 = none ∨ q.2 = some 2) → Ev (fun k => strconv_ParseUint_28.f k s 16 8) q := by
    intro q h hq
    unfold strconv_ParseUint_28.f
    have h5 : Ev (fun k => strconv_ParseUint_45.j5 k s 16 8 false s 1152921504606846976) q := by
      refine Ev.step (fun k => ?_) h
      simp only [strconv_ParseUint_45.j5]
      rw [if_pos (by decide), if_pos (by omega), Option.bind_some]
      rfl
    have h4 : Ev (fun k => strconv_ParseUint_45.j4 k s 16 8 false s) q := by
      refine Ev.step (fun k => ?_) h5
      simp only [strconv_ParseUint_45.j4]
      rw [if_neg (by decide), if_pos trivial]
    have h3 : Ev (fun k => strconv_ParseUint_45.j3 k s 16 8 false s) q := by
      refine Ev.step (fun k => ?_) h4
      simp only [strconv_ParseUint_45.j3]
      rw [if_neg (by decide), if_neg (by decide), if_neg (by decide)]
    have h0 : Ev (fun k => strconv_ParseUint_45.j0 k s 16 8 false s true) q := by
      refine Ev.step (fun k => ?_) h3
      simp only [strconv_ParseUint_45.j0]
      rw [if_pos trivial]
    have hf : Ev (fun k => strconv_ParseUint_45.f k s 16 8) q := by
      refine Ev.congr (fun k => ?_) h0
      unfold strconv_ParseUint_45.f
      have hne : ¬ s.toList = ([] : List UInt8) := by rw [Lib.toList_data, hs]; exact List.cons_ne_nil _ _
      rw [if_neg hne, if_pos (by decide)]
      rfl
    refine Ev.bind hf ?_
    have hok : okPu s q.2 := ⟨by omega, hq⟩
    simp only [if_pos hok]
    exact Ev.now _
  have hend : ∀ X, Ev (fun k => PU k s X (numsB s) ((2 : Nat) : Int)) (X, none) := by
    intro X
    refine Ev.step (f := fun _ => some _) (fun k => ?_) (Ev.now _)
    simp only [PU, strconv_ParseUint_45.l0]
    rw [if_neg (by rw [hn]; show ¬ ((2 : Nat) : Int) < ((2 : Nat) : Int); omega), if_neg (by decide)]
  have r0 : rd (numsB s) ((0 : Nat) : Int) = (c.toNat : Int) := by rw [hn]; rfl
  have r1 : rd (numsB s) ((1 : Nat) : Int) = (d.toNat : Int) := by rw [hn]; rfl
  have hlen : (numsB s).length = 2 := by rw [hn]; rfl
  have s0 := pu_step s 0 (by omega) (by omega) (numsB s) 0 (by omega) (by omega) (by rw [r0]; omega)
  rw [r0] at s0
  unfold two
  cases hx : pv (c.toNat : Int) with
  | none => exact ⟨(0, some 2), hwide _ (s0.2 hx) (Or.inr rfl), Or.inr ⟨rfl, rfl⟩⟩
  | some x =>
    have bx := pv_bd hx
    have s1 := pu_step s (16 * 0 + x) (by omega) (by omega) (numsB s) 1 (by omega) (by omega) (by rw [r1]; omega)
    rw [r1] at s1
    cases hy : pv (d.toNat : Int) with
    | none => exact ⟨(0, some 2), hwide _ (s0.1 x hx _ (s1.2 hy)) (Or.inr rfl), Or.inr ⟨rfl, rfl⟩⟩
    | some y =>
      have by_ := pv_bd hy
      refine ⟨(16 * (16 * 0 + x) + y, none), hwide _ (s0.1 x hx _ (s1.1 y hy _ (hend _))) (Or.inl rfl), Or.inl ⟨_, rfl, ?_⟩⟩
      rw [UInt8.toNat_ofNat']
      congr 1
      omega

/-! both loops -/
theorem nums_str (l : List UInt8) : strOfNums (l.map fun b => (b.toNat : Int)) = ⟨l.toArray⟩ := by
  unfold strOfNums
  rw [List.map_map]
  congr 2
  have e : ((fun n : Int => UInt8.ofNat n.toNat) ∘ fun b : UInt8 => (b.toNat : Int)) = id := by
    funext b
    simp
  rw [e, List.map_id]
def failH : ByteArray × Bool := ((⟨#[]⟩ : ByteArray), false)
theorem hex_cons {c d : UInt8} {l S : List UInt8} (h : c :: d :: l = hexL S) : ∃ b S', S = b :: S' ∧ c = hexD (b.toNat / 16) ∧ d = hexD (b.toNat % 16) ∧ l = hexL S' := by
  cases S with
  | nil => cases h
  | cons b S' =>
    unfold hexL at h
    simp only [List.cons.injEq] at h
    exact ⟨b, S', rfl, h.1, h.2.1, h.2.2⟩
theorem hex_nil {S : List UInt8} (h : [] = hexL S) : S = [] := by
  cases S with
  | nil => rfl
  | cons b S' => unfold hexL at h; cases h
theorem ext2 (t : ByteArray) (i : Nat) (c d : UInt8) (l : List UInt8) (h : t.data.toList.drop i = c :: d :: l) : (t.extract i (i + 2)).data.toList = [c, d] := by
  rw [← Lib.toList_data, Lib.extract_toList, h, Nat.add_sub_cancel_left]
  rfl
theorem drop2 (t : ByteArray) (i : Nat) (hi : i + 2 ≤ t.size) : ∃ c d l, t.data.toList.drop i = c :: d :: l ∧ t.data.toList.drop (i + 2) = l ∧ t.data.toList.take (i + 2) = t.data.toList.take i ++ [c, d] := by
  have hz := Lib.size_eq t
  have h1 := List.drop_eq_getElem_cons (by omega : i < t.data.toList.length)
  have h2 := List.drop_eq_getElem_cons (by omega : i + 1 < t.data.toList.length)
  refine ⟨_, _, _, by rw [h1, h2], rfl, ?_⟩
  rw [List.take_succ_eq_append_getElem (by omega : i + 1 < t.data.toList.length), List.take_succ_eq_append_getElem (by omega : i < t.data.toList.length), List.append_assoc]
  rfl
theorem byte_mod (b : UInt8) : ((b.toNat : Int)) % 256 = (b.toNat : Int) := by
  have := b.toNat_lt
  omega

theorem impl_loop (t : ByteArray) (ht : t.size ≤ 1200) : ∀ (d i : Nat) (A : List UInt8), i + 2 * d = t.size → A.length ≤ i →
    ∃ r, Ev (fun k => impl_ofHex.l0 k t (A.map fun b => (b.toNat : Int)) (i : Int)) r ∧ (r = failH ∨ ∃ S, hexL S = t.data.toList) ∧
      (hexL A = t.data.toList.take i → ∀ S, t.data.toList.drop i = hexL S → r = ((⟨(A ++ S).toArray⟩ : ByteArray), true)) := by
  have hz := Lib.size_eq t
  intro d
  induction d with
  | zero =>
    intro i A hi hA
    have hh : impl_hexOf.f (strOfNums (A.map fun b => (b.toNat : Int))) = some (⟨(hexL A).toArray⟩ : ByteArray) := by
      rw [nums_str]
      unfold impl_hexOf.f
      rw [if_pos (by show A.toArray.size ≤ _; rw [List.size_toArray]; omega)]
    by_cases he : hexL A = t.data.toList
    · refine ⟨((⟨A.toArray⟩ : ByteArray), true), Ev.step (f := fun _ => some _) (fun k => ?_) (Ev.now _), Or.inr ⟨A, he⟩, fun _ S h => ?_⟩
      · simp only [impl_ofHex.l0]
        rw [if_neg (by omega), hh, Option.bind_some, if_pos (by rw [Lib.toList_data, Lib.toList_data]; simpa using he), nums_str]
      · rw [List.drop_eq_nil_of_le (by omega)] at h
        rw [hex_nil h, List.append_nil]
    · refine ⟨failH, Ev.step (f := fun _ => some _) (fun k => ?_) (Ev.now _), Or.inl rfl, fun h S _ => ?_⟩
      · simp only [impl_ofHex.l0]
        rw [if_neg (by omega), hh, Option.bind_some, if_neg (by rw [Lib.toList_data, Lib.toList_data]; simpa using he)]
        rfl
      · rw [List.take_of_length_le (by omega)] at h
        exact absurd h he
  | succ d ih =>
    intro i A hi hA
    obtain ⟨c, e, l, h1, h2, h3⟩ := drop2 t i (by omega)
    have hw : wrap64 ((i : Int) + 2) = ((i + 2 : Nat) : Int) := by unfold wrap64; omega
    obtain ⟨q, hq, hc⟩ := pu_ev (t.extract i (i + 2)) c e (ext2 t i c e l h1)
    have hhead : ∀ r, Ev (fun k => if q.2.isNone = true then (if (A.map fun b => (b.toNat : Int)).length < 140737488355328 then (impl_ofHex.l0 k t ((A.map fun b => (b.toNat : Int)) ++ [(q.1) % 256]) ((i + 2 : Nat) : Int)) else (none)) else (some ((⟨#[]⟩ : ByteArray), false))) r → Ev (fun k => impl_ofHex.l0 k t (A.map fun b => (b.toNat : Int)) (i : Int)) r := by
      intro r h
      refine Ev.step (fun k => ?_) (Ev.bind (f := fun k (q : Int × Option Int) => if q.2.isNone = true then (if (A.map fun b => (b.toNat : Int)).length < 140737488355328 then (impl_ofHex.l0 k t ((A.map fun b => (b.toNat : Int)) ++ [(q.1) % 256]) ((i + 2 : Nat) : Int)) else (none)) else (some ((⟨#[]⟩ : ByteArray), false))) hq h)
      simp only [impl_ofHex.l0]
      rw [if_pos (by omega), if_pos (by omega), hw, if_pos (by omega), if_pos (by omega), Int.toNat_natCast, Int.toNat_natCast]
    rcases hc with ⟨b, hb, rfl⟩ | ⟨hb, rfl⟩
    · obtain ⟨r, hr, hr1, hr2⟩ := ih (i + 2) (A ++ [b]) (by omega) (by simp; omega)
      refine ⟨r, hhead r ?_, hr1, fun hA' S hS => ?_⟩
      · simp only [Option.isNone_none, if_true, byte_mod]
        rw [List.map_append] at hr
        refine Ev.congr (fun k => ?_) hr
        rw [if_pos (by rw [List.length_map]; omega)]
        rfl
      · rw [h1] at hS
        obtain ⟨b', S', rfl, g1, g2, g3⟩ := hex_cons hS
        rw [g1, g2, two_dig pv pv_dig] at hb
        obtain rfl := Option.some.inj hb
        have := hr2 (by rw [hexL_append, hA', h3, g1, g2]; rfl) S' (by rw [h2, g3])
        rw [this, List.append_assoc]
        rfl
    · refine ⟨failH, hhead _ ?_, Or.inl rfl, fun hA' S hS => ?_⟩
      · simp only [Option.isNone_some, Bool.false_eq_true, if_false]
        exact Ev.now _
      · rw [h1] at hS
        obtain ⟨b', S', rfl, g1, g2, g3⟩ := hex_cons hS
        rw [g1, g2, two_dig pv pv_dig] at hb
        cases hb

theorem sp_step (t : ByteArray) (A : List Int) (p : Int) (X : Int) (hX : 0 ≤ X) (hX1 : X < 16) (Y : List Int) (i : Nat) (hi : i < Y.length) (hl : Y.length ≤ 1000) (hc : 0 ≤ rd Y (i : Int) ∧ rd Y (i : Int) < 256) :
    (∀ v, sv (rd Y (i : Int)) = some v → ∀ r, Ev (fun k => spec_OfHex.l1 k t A p (16 * X + v) Y (Y.length : Int) ((i + 1 : Nat) : Int)) r → Ev (fun k => spec_OfHex.l1 k t A p X Y (Y.length : Int) (i : Int)) r) ∧
    (sv (rd Y (i : Int)) = none → Ev (fun k => spec_OfHex.l1 k t A p X Y (Y.length : Int) (i : Int)) failH) := by
  have hw : wrap64 ((i : Int) + 1) = ((i + 1 : Nat) : Int) := by unfold wrap64; omega
  have hx : wrap64 (X * 16) = 16 * X := by unfold wrap64; omega
  have h3 : ∀ r, Ev (fun k => spec_OfHex.j3 k t A p (16 * X) (rd Y (i : Int)) Y (Y.length : Int) (i : Int) (decide (48 ≤ rd Y (i : Int) ∧ rd Y (i : Int) ≤ 57))) r → Ev (fun k => spec_OfHex.l1 k t A p X Y (Y.length : Int) (i : Int)) r := by
    intro r h
    refine Ev.step (fun k => ?_) h
    simp only [spec_OfHex.l1, hx]
    rw [if_pos (by omega), if_pos (by omega), if_pos (by omega)]
    by_cases h48 : rd Y (i : Int) ≥ 48
    · rw [if_pos h48]
      congr 1
      by_cases h57 : rd Y (i : Int) ≤ 57
      · rw [decide_eq_true h57, decide_eq_true ⟨h48, h57⟩]
      · rw [decide_eq_false h57, decide_eq_false (fun h => h57 h.2)]
    · rw [if_neg h48, decide_eq_false (fun h => h48 h.1)]
  unfold sv
  by_cases hd : 48 ≤ rd Y (i : Int) ∧ rd Y (i : Int) ≤ 57
  · rw [if_pos hd]
    refine ⟨fun v hv r h => h3 r (Ev.step (fun k => ?_) h), fun h => by cases h⟩
    obtain rfl := Option.some.inj hv
    simp only [spec_OfHex.j3, hw]
    rw [if_pos (decide_eq_true hd), show wrap64 (16 * X + (rd Y (i : Int) - 48) % 256) = 16 * X + (rd Y (i : Int) - 48) by unfold wrap64; omega]
  · rw [if_neg hd]
    rw [decide_eq_false hd] at h3
    by_cases h97 : rd Y (i : Int) ≥ 97
    · by_cases h102 : rd Y (i : Int) ≤ 102
      · rw [if_pos ⟨h97, h102⟩]
        refine ⟨fun v hv r h => h3 r (Ev.step (fun k => ?_) h), fun h => by cases h⟩
        obtain rfl := Option.some.inj hv
        simp only [spec_OfHex.j3, hw]
        rw [if_neg (by decide), if_pos h97, if_pos h102, show wrap64 (16 * X + ((rd Y (i : Int) - 97) % 256 + 10)) = 16 * X + (rd Y (i : Int) - 87) by unfold wrap64; omega]
      · rw [if_neg (fun h => h102 h.2)]
        refine ⟨fun v hv => (by cases hv), fun _ => h3 _ (Ev.step (f := fun _ => some _) (fun k => ?_) (Ev.now _))⟩
        simp only [spec_OfHex.j3]
        rw [if_neg (by decide), if_pos h97, if_neg h102]
        rfl
    · rw [if_neg (fun h => h97 h.1)]
      refine ⟨fun v hv => (by cases hv), fun _ => h3 _ (Ev.step (f := fun _ => some _) (fun k => ?_) (Ev.now _))⟩
      simp only [spec_OfHex.j3]
      rw [if_neg (by decide), if_neg h97]
      rfl

theorem sp_pair (t : ByteArray) (A : List Int) (hA : A.length ≤ 1000000) (p : Int) (s : ByteArray) (c d : UInt8) (hs : s.data.toList = [c, d]) :
    (∀ b, two sv c d = some b → ∀ r, Ev (fun k => spec_OfHex.l0 k t (A ++ [(b.toNat : Int)]) (wrap64 (p + 2))) r → Ev (fun k => spec_OfHex.l1 k t A p 0 (numsB s) ((numsB s).length : Int) 0) r) ∧
    (two sv c d = none → Ev (fun k => spec_OfHex.l1 k t A p 0 (numsB s) ((numsB s).length : Int) 0) failH) := by
  have hn : numsB s = [(c.toNat : Int), (d.toNat : Int)] := by unfold numsB; rw [hs]; rfl
  have hcl := c.toNat_lt
  have hdl := d.toNat_lt
  have r0 : rd (numsB s) ((0 : Nat) : Int) = (c.toNat : Int) := by rw [hn]; rfl
  have r1 : rd (numsB s) ((1 : Nat) : Int) = (d.toNat : Int) := by rw [hn]; rfl
  have hlen : (numsB s).length = 2 := by rw [hn]; rfl
  have s0 := sp_step t A p 0 (by omega) (by omega) (numsB s) 0 (by omega) (by omega) (by rw [r0]; omega)
  rw [r0] at s0
  unfold two
  cases hx : sv (c.toNat : Int) with
  | none => exact ⟨fun b hb => (by cases hb), fun _ => s0.2 hx⟩
  | some x =>
    have bx := sv_bd hx
    have s1 := sp_step t A p (16 * 0 + x) (by omega) (by omega) (numsB s) 1 (by omega) (by omega) (by rw [r1]; omega)
    rw [r1] at s1
    cases hy : sv (d.toNat : Int) with
    | none => exact ⟨fun b hb => (by cases hb), fun _ => s0.1 x hx _ (s1.2 hy)⟩
    | some y =>
      have by_ := sv_bd hy
      refine ⟨fun b hb r h => s0.1 x hx _ (s1.1 y hy _ (Ev.step (fun k => ?_) h)), fun h => by cases h⟩
      have e : (b.toNat : Int) = 16 * (16 * 0 + x) + y := by
        rw [← Option.some.inj hb, UInt8.toNat_ofNat']
        omega
      simp only [spec_OfHex.l1]
      rw [if_neg (by rw [hlen]; omega), if_pos (by omega), e, show (16 * (16 * 0 + x) + y) % 256 = 16 * (16 * 0 + x) + y by omega]

theorem spec_loop (t : ByteArray) (ht : t.size ≤ 1200) : ∀ (d i : Nat) (A : List UInt8), i + 2 * d = t.size → A.length ≤ i → hexL A = t.data.toList.take i →
    ∃ r, Ev (fun k => spec_OfHex.l0 k t (A.map fun b => (b.toNat : Int)) (i : Int)) r ∧ (r = failH ∨ ∃ S, hexL S = t.data.toList) ∧
      (∀ S, t.data.toList.drop i = hexL S → r = ((⟨(A ++ S).toArray⟩ : ByteArray), true)) := by
  have hz := Lib.size_eq t
  intro d
  induction d with
  | zero =>
    intro i A hi hA hA'
    refine ⟨((⟨A.toArray⟩ : ByteArray), true), Ev.step (f := fun _ => some _) (fun k => ?_) (Ev.now _), Or.inr ⟨A, by rw [hA', List.take_of_length_le (by omega)]⟩, fun S h => ?_⟩
    · simp only [spec_OfHex.l0]
      rw [if_neg (by omega), nums_str]
    · rw [List.drop_eq_nil_of_le (by omega)] at h
      rw [hex_nil h, List.append_nil]
  | succ d ih =>
    intro i A hi hA hA'
    obtain ⟨c, e, l, h1, h2, h3⟩ := drop2 t i (by omega)
    have hw : wrap64 ((i : Int) + 2) = ((i + 2 : Nat) : Int) := by unfold wrap64; omega
    have hx2 := ext2 t i c e l h1
    have hx2s : (t.extract i (i + 2)).size = 2 := by rw [Lib.size_eq, hx2]; rfl
    obtain ⟨p1, p2⟩ := sp_pair t (A.map fun b => (b.toNat : Int)) (by rw [List.length_map]; omega) (i : Int) (t.extract i (i + 2)) c e hx2
    have hhead : ∀ r, Ev (fun k => spec_OfHex.l1 k t (A.map fun b => (b.toNat : Int)) (i : Int) 0 (numsB (t.extract i (i + 2))) ((numsB (t.extract i (i + 2))).length : Int) 0) r → Ev (fun k => spec_OfHex.l0 k t (A.map fun b => (b.toNat : Int)) (i : Int)) r := by
      intro r h
      refine Ev.step (fun k => ?_) h
      simp only [spec_OfHex.l0]
      rw [if_pos (by omega), if_pos (by omega), hw, if_pos (by omega), if_pos (by omega), Int.toNat_natCast, Int.toNat_natCast, if_pos (by omega), Option.bind_some]
    cases hb : two sv c e with
    | some b =>
      obtain ⟨g1, g2⟩ := two_sv hb
      obtain ⟨r, hr, hr1, hr2⟩ := ih (i + 2) (A ++ [b]) (by omega) (by simp; omega) (by rw [hexL_append, hA', h3, g1, g2]; rfl)
      refine ⟨r, hhead r (p1 b hb r ?_), hr1, fun S hS => ?_⟩
      · rw [hw]
        rw [List.map_append] at hr
        exact hr
      · rw [h1] at hS
        obtain ⟨b', S', rfl, g1', g2', g3⟩ := hex_cons hS
        rw [g1', g2', two_dig sv sv_dig] at hb
        obtain rfl := Option.some.inj hb
        have := hr2 S' (by rw [h2, g3])
        rw [this, List.append_assoc]
        rfl
    | none =>
      refine ⟨failH, hhead _ (p2 hb), Or.inl rfl, fun S hS => ?_⟩
      rw [h1] at hS
      obtain ⟨b', S', rfl, g1', g2', g3⟩ := hex_cons hS
      rw [g1', g2', two_dig sv sv_dig] at hb
      cases hb

theorem oh_both (t : ByteArray) : ∃ r, Ev (fun k => spec_OfHex.f k t) r ∧ Ev (fun k => impl_OfHex.f k t) r := by
  by_cases h : t.size ≤ 1200
  · by_cases h2 : t.size % 2 = 1
    · refine ⟨failH, ?_, ?_⟩
      · refine Ev.congr (f := fun k => spec_OfHex.j0 k t true) (fun k => ?_) (Ev.step (f := fun _ => some _) (fun k => ?_) (Ev.now _))
        · unfold spec_OfHex.f
          rw [if_neg (by omega)]
          congr 1
          exact beq_iff_eq.mpr (by omega)
        · simp only [spec_OfHex.j0]
          rw [if_pos trivial]
          rfl
      · refine Ev.congr (fun k => ?_) (Ev.now _)
        unfold impl_OfHex.f
        rw [if_neg (by omega), if_pos (by omega)]
        rfl
    · obtain ⟨v, e1, e2, e3⟩ := spec_loop t h (t.size / 2) 0 [] (by omega) (by simp) (by simp [hexL])
      obtain ⟨w, f1, f2, f3⟩ := impl_loop t h (t.size / 2) 0 [] (by omega) (by simp)
      have hs : Ev (fun k => spec_OfHex.f k t) v := by
        refine Ev.congr (f := fun k => spec_OfHex.j0 k t false) (fun k => ?_) (Ev.step (fun k => ?_) e1)
        · unfold spec_OfHex.f
          rw [if_neg (by omega)]
          congr 1
          exact beq_eq_false_iff_ne.mpr (by omega)
        · simp only [spec_OfHex.j0]
          rw [if_neg (by decide)]
          rfl
      have hi : Ev (fun k => impl_OfHex.f k t) w := by
        refine Ev.congr (fun k => ?_) (Ev.bind (f := fun _ (r : ByteArray × Bool) => some (r.1, r.2)) f1 (Ev.now _))
        unfold impl_OfHex.f impl_ofHex.f
        rw [if_neg (by omega), if_neg (by omega)]
        rfl
      by_cases hx : ∃ S, hexL S = t.data.toList
      · obtain ⟨S, hx⟩ := hx
        rw [e3 S (by rw [List.drop_zero, hx])] at hs
        rw [f3 (by simp [hexL]) S (by rw [List.drop_zero, hx])] at hi
        exact ⟨_, hs, hi⟩
      · rw [e2.resolve_right hx] at hs
        rw [f2.resolve_right hx] at hi
        exact ⟨_, hs, hi⟩
  · refine ⟨failH, ?_, ?_⟩
    · refine Ev.congr (f := fun k => spec_OfHex.j0 k t true) (fun k => ?_) (Ev.step (f := fun _ => some _) (fun k => ?_) (Ev.now _))
      · unfold spec_OfHex.f
        rw [if_pos (by omega)]
      · simp only [spec_OfHex.j0]
        rw [if_pos trivial]
        rfl
    · refine Ev.congr (fun k => ?_) (Ev.now _)
      unfold impl_OfHex.f
      rw [if_pos (by omega)]
      rfl


theorem FnExactOfHex : laws_FnExactOfHex.Pure := by
  intro t _
  by_cases h : (t.size : Int) > 1048576
  · exact ⟨0, by unfold laws_FnExactOfHex.f; rw [if_pos h]⟩
  · obtain ⟨r, h1, h2⟩ := oh_both t
    refine Ev.rounds (Ev.congr (fun k => by unfold laws_FnExactOfHex.f; rw [if_neg h]) (Ev.bind h1 (Ev.bind h2 ?_)))
    simp only [if_true, bne_self_eq_false, Bool.false_eq_true, if_false]
    exact Ev.now _

end Go.Proofs.YtmajmplhojlhbaaDoor.Pure
