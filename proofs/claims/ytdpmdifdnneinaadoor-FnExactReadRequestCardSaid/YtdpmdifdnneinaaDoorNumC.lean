/-
  Numbers in decimal form and texts cut at a byte, in plain lists: no program in sight.
-/
import Derived.Test.YtdpmdifdnneinaaDoorBase
import Derived.Lib.ParseIntBTie
import Derived.Lib.SplitLaws
import Derived.Lib.CutLaws
import Derived.Lib.ItoaMem
import Derived.Lib.Join
namespace Go.Proofs.YtdpmdifdnneinaaDoor
set_option maxRecDepth 100000
/-- digits -/
def isDg (b : UInt8) : Prop := 48 ≤ b.toNat ∧ b.toNat ≤ 57
instance (b : UInt8) : Decidable (isDg b) := inferInstanceAs (Decidable (_ ∧ _))
def dgV (acc : Nat) (l : List UInt8) : Nat := l.foldl (fun a c => a * 10 + (c.toNat - 48)) acc
theorem dgV_app (acc : Nat) (l r : List UInt8) : dgV acc (l ++ r) = dgV (dgV acc l) r := List.foldl_append ..
theorem dg_ofNat {d : Nat} (h : d < 10) : isDg (UInt8.ofNat (48 + d)) ∧ (UInt8.ofNat (48 + d)).toNat - 48 = d := by
  have : (UInt8.ofNat (48 + d)).toNat = 48 + d := UInt8.toNat_ofNat_of_lt' (by show 48 + d < 256; omega)
  unfold isDg
  omega
theorem dec_dg : ∀ (k u : Nat), u < k → (∀ b ∈ Lib.decDigits u, isDg b) ∧ dgV 0 (Lib.decDigits u) = u ∧ Lib.decDigits u ≠ []
  | 0, u, h => absurd h (by omega)
  | k + 1, u, h => by
    rw [Lib.decDigits]
    by_cases h10 : u < 10
    · rw [dif_pos h10]
      obtain ⟨h1, h2⟩ := dg_ofNat h10
      refine ⟨fun b hb => ?_, ?_, by simp⟩
      · rw [List.mem_singleton] at hb; rw [hb]; exact h1
      · show 0 * 10 + ((UInt8.ofNat (48 + u)).toNat - 48) = u
        omega
    · rw [dif_neg h10]
      obtain ⟨i1, i2, i3⟩ := dec_dg k (u / 10) (by omega)
      obtain ⟨h1, h2⟩ := dg_ofNat (Nat.mod_lt u (by decide : 0 < 10))
      refine ⟨fun b hb => ?_, ?_, by simp⟩
      · rcases List.mem_append.1 hb with hb | hb
        · exact i1 b hb
        · rw [List.mem_singleton] at hb; rw [hb]; exact h1
      · rw [dgV_app, i2]
        show u / 10 * 10 + ((UInt8.ofNat (48 + u % 10)).toNat - 48) = u
        omega
/-- what a run over digits gives -/
theorem parse_dg (M : Nat) (hM : 1000000000000000000 ≤ M) : ∀ (l : List UInt8) (acc : Nat), (acc + 1) * 10 ^ l.length ≤ 1000000000000000000 →
    (∀ b ∈ l, isDg b) → Lib.parseUintM M acc l = .ok (dgV acc l)
  | [], acc, _, _ => rfl
  | c :: r, acc, h, hd => by
    obtain ⟨h1, h2⟩ := hd c (List.mem_cons_self ..)
    have h3 : (acc + 1) * 10 * 10 ^ r.length ≤ 1000000000000000000 := by
      rw [Nat.mul_assoc, Nat.mul_comm 10, ← Nat.pow_succ]; exact h
    have h4 : (acc * 10 + (c.toNat - 48) + 1) * 10 ^ r.length ≤ 1000000000000000000 := Nat.le_trans (Nat.mul_le_mul_right _ (by omega)) h3
    have h5 : acc * 10 + (c.toNat - 48) + 1 ≤ 1000000000000000000 := Nat.le_trans (Nat.le_mul_of_pos_right _ (Nat.pow_pos (by decide))) h4
    have ih := parse_dg M hM r (acc * 10 + (c.toNat - 48)) h4 fun b hb => hd b (List.mem_cons_of_mem _ hb)
    rw [Lib.parseUintM, if_pos ⟨h1, h2⟩, if_neg (by omega), if_neg (by omega), ih]
    rfl
/-- how the library's parse of bytes that are no number ends -/
def noN : Lib.NumEnd Nat := Lib.parseUintB 0 []
theorem parse_no (M : Nat) (hM : 1000000000000000000 ≤ M) : ∀ (l : List UInt8) (acc : Nat), (acc + 1) * 10 ^ l.length ≤ 1000000000000000000 →
    ¬ (∀ b ∈ l, isDg b) → Lib.parseUintM M acc l = noN
  | [], acc, _, hd => absurd (fun b hb => absurd hb (by simp)) hd
  | c :: r, acc, h, hd => by
    by_cases hc : isDg c
    · obtain ⟨h1, h2⟩ := hc
      have h3 : (acc + 1) * 10 * 10 ^ r.length ≤ 1000000000000000000 := by
        rw [Nat.mul_assoc, Nat.mul_comm 10, ← Nat.pow_succ]; exact h
      have h4 : (acc * 10 + (c.toNat - 48) + 1) * 10 ^ r.length ≤ 1000000000000000000 := Nat.le_trans (Nat.mul_le_mul_right _ (by omega)) h3
      have h5 : acc * 10 + (c.toNat - 48) + 1 ≤ 1000000000000000000 := Nat.le_trans (Nat.le_mul_of_pos_right _ (Nat.pow_pos (by decide))) h4
      have ih := parse_no M hM r (acc * 10 + (c.toNat - 48)) h4 fun hr => hd fun b hb => by
        rcases List.mem_cons.1 hb with rfl | hb
        · exact ⟨h1, h2⟩
        · exact hr b hb
      rw [Lib.parseUintM, if_pos ⟨h1, h2⟩, if_neg (by omega), if_neg (by omega), ih]
    · rw [Lib.parseUintM, if_neg (show ¬ (48 ≤ c.toNat ∧ c.toNat ≤ 57) from hc)]
      rfl
theorem dgV_lt : ∀ (l : List UInt8) (acc : Nat), (∀ b ∈ l, isDg b) → dgV acc l < (acc + 1) * 10 ^ l.length
  | [], acc, _ => by simp [dgV]
  | c :: r, acc, h => by
    obtain ⟨h1, h2⟩ := h c (List.mem_cons_self ..)
    have ih := dgV_lt r (acc * 10 + (c.toNat - 48)) fun b hb => h b (List.mem_cons_of_mem _ hb)
    refine Nat.lt_of_lt_of_le ih ?_
    rw [List.length_cons, Nat.pow_succ, Nat.mul_comm (10 ^ r.length), ← Nat.mul_assoc]
    exact Nat.mul_le_mul_right _ (by omega)
theorem pow18 {n : Nat} (h : n ≤ 18) : (0 + 1) * 10 ^ n ≤ 1000000000000000000 := by
  have h1 : 10 ^ n ≤ 10 ^ 18 := Nat.pow_le_pow_right (by decide) h
  have h2 : (10 : Nat) ^ 18 = 1000000000000000000 := by decide
  omega
/-- the digits behind a sign -/
def bare (l : List UInt8) : List UInt8 := Lib.trimPrefix l [45]
theorem bare_neg (r : List UInt8) : bare (45 :: r) = r := by simp [bare, Lib.trimPrefix, Lib.hasPrefix, List.isPrefixOf]
theorem bare_pos {l : List UInt8} (h : ∀ r, l ≠ 45 :: r) : bare l = l := by
  unfold bare Lib.trimPrefix
  rw [if_neg]
  intro hp
  cases l with
  | nil => simp [Lib.hasPrefix, List.isPrefixOf] at hp
  | cons b r =>
    simp [Lib.hasPrefix, List.isPrefixOf] at hp
    exact h r (by rw [hp])
/-- l is the decimal form of n, of at most 18 digits -/
def NumQ (l : List UInt8) (n : Int) : Prop := Lib.itoa n = l ∧ (bare l).length ≤ 18
theorem no45 {l : List UInt8} (h : ∀ b ∈ l, isDg b) : ∀ r, l ≠ 45 :: r := by
  rintro r rfl
  have := (h 45 (List.mem_cons_self ..)).1
  have e : (45 : UInt8).toNat = 45 := rfl
  omega
theorem itoa_bare (n : Int) : bare (Lib.itoa n) = Lib.decDigits n.natAbs := by
  unfold Lib.itoa
  split
  · exact bare_neg _
  · rename_i h
    rw [bare_pos (no45 (dec_dg _ _ (Nat.lt_succ_self _)).1)]
    congr 1
    omega
theorem itoa_inj {m n : Int} (h : Lib.itoa m = Lib.itoa n) : m = n := by
  have h1 := congrArg bare h
  rw [itoa_bare, itoa_bare] at h1
  have h2 := congrArg (dgV 0) h1
  rw [(dec_dg _ _ (Nat.lt_succ_self _)).2.1, (dec_dg _ _ (Nat.lt_succ_self _)).2.1] at h2
  have key : ∀ k : Int, k < 0 → ∀ j : Int, ¬ j < 0 → Lib.itoa k ≠ Lib.itoa j := by
    intro k hk j hj e
    unfold Lib.itoa at e
    rw [if_pos hk, if_neg hj] at e
    exact no45 (dec_dg _ _ (Nat.lt_succ_self _)).1 _ e.symm
  by_cases hm : m < 0
  · by_cases hn : n < 0
    · omega
    · exact absurd h (key m hm n hn)
  · by_cases hn : n < 0
    · exact absurd h.symm (key n hn m hm)
    · omega
theorem NumQ.uniq {l : List UInt8} {m n : Int} (h1 : NumQ l m) (h2 : NumQ l n) : m = n := itoa_inj (h1.1.trans h2.1.symm)
theorem NumQ.dg {l : List UInt8} {n : Int} (h : NumQ l n) : (∀ b ∈ bare l, isDg b) ∧ dgV 0 (bare l) = n.natAbs ∧ 1 ≤ (bare l).length := by
  obtain ⟨rfl, _⟩ := h
  rw [itoa_bare]
  obtain ⟨h1, h2, h3⟩ := dec_dg _ n.natAbs (Nat.lt_succ_self _)
  exact ⟨h1, h2, by have := List.length_pos_iff.2 h3; omega⟩
theorem NumQ.lt {l : List UInt8} {n : Int} (h : NumQ l n) : -1000000000000000000 < n ∧ n < 1000000000000000000 := by
  obtain ⟨h1, h2, h3⟩ := h.dg
  have h4 := dgV_lt _ 0 h1
  have h5 := pow18 h.2
  omega
theorem NumQ.mk_small {n : Int} (h0 : -1000000000000000000 < n) (h1 : n < 1000000000000000000) : NumQ (Lib.itoa n) n := by
  refine ⟨rfl, ?_⟩
  rw [itoa_bare, Lib.decDigits_length]
  rcases Nat.lt_or_ge (Lib.nDigits n.natAbs) 19 with h | h
  · omega
  · exfalso
    have key : ∀ (k u : Nat), k + 1 ≤ Lib.nDigits u → 1 ≤ k → 10 ^ k ≤ u := by
      intro k
      induction k with
      | zero => intro u _ h; omega
      | succ k ih =>
        intro u hu _
        rw [Lib.nDigits] at hu
        split at hu
        · omega
        · by_cases hk : k = 0
          · subst hk; omega
          · have := ih (u / 10) (by omega) (by omega)
            rw [Nat.pow_succ]
            omega
    have h2 := key 18 n.natAbs h (by decide)
    have h3 : (10 : Nat) ^ 18 = 1000000000000000000 := by decide
    omega
/-- ParseInt at a decimal form -/
theorem NumQ.parse {l : List UInt8} {n : Int} (h : NumQ l n) : Lib.parseIntB 64 l = .ok n := by
  have hlt := h.lt
  obtain ⟨h1, h2, h3⟩ := h.dg
  have hp := parse_dg (2 ^ 64 - 1) (by decide) (bare l) 0 (pow18 h.2) h1
  have hne : bare l ≠ [] := by intro e; rw [e] at h3; simp at h3
  have hu : Lib.parseUintB 64 (bare l) = .ok n.natAbs := by
    unfold Lib.parseUintB
    rw [if_neg hne, hp, h2]
  have e63 : (2 : Nat) ^ (64 - 1) = 9223372036854775808 := by decide
  obtain ⟨rfl, _⟩ := h
  rw [itoa_bare] at hu hne
  by_cases hn : n < 0
  · have e : Lib.itoa n = 45 :: Lib.decDigits n.natAbs := by unfold Lib.itoa; rw [if_pos hn]
    rw [e, Lib.parseIntB_minus, hu]
    show (if 2 ^ (64 - 1) < n.natAbs then Lib.NumEnd.range else Lib.NumEnd.ok (-(n.natAbs : Int))) = _
    rw [if_neg (by omega)]
    congr 1
    omega
  · have e : Lib.itoa n = Lib.decDigits n.natAbs := by unfold Lib.itoa; rw [if_neg hn]; congr 1; omega
    rw [e]
    obtain ⟨d1, _, d3⟩ := dec_dg _ n.natAbs (Nat.lt_succ_self _)
    cases hl : Lib.decDigits n.natAbs with
    | nil => exact absurd hl d3
    | cons c r =>
      have hc := d1 c (by rw [hl]; exact List.mem_cons_self ..)
      unfold isDg at hc
      rw [Lib.parseIntB_plain 64 c r (by omega) (by omega), ← hl, hu]
      show (if 2 ^ (64 - 1) ≤ n.natAbs then Lib.NumEnd.range else Lib.NumEnd.ok (n.natAbs : Int)) = _
      rw [if_neg (by omega)]
      congr 1
      omega
/-- no number of few digits is out of range -/
theorem parse_few {l : List UInt8} (h : (bare l).length ≤ 18) : Lib.parseIntB 64 l ≠ .range := by
  have e63 : (2 : Nat) ^ (64 - 1) = 9223372036854775808 := by decide
  have key : ∀ r : List UInt8, r.length ≤ 18 → Lib.parseUintB 64 r = noN ∨ ∃ u, Lib.parseUintB 64 r = .ok u ∧ u < 1000000000000000000 := by
    intro r hr
    unfold Lib.parseUintB
    by_cases h0 : r = []
    · rw [if_pos h0]; exact Or.inl rfl
    · rw [if_neg h0]
      by_cases hd : ∀ b ∈ r, isDg b
      · right
        refine ⟨_, parse_dg (2 ^ 64 - 1) (by decide) r 0 (pow18 hr) hd, ?_⟩
        have := dgV_lt r 0 hd
        have := pow18 hr
        omega
      · left
        exact parse_no (2 ^ 64 - 1) (by decide) r 0 (pow18 hr) hd
  cases l with
  | nil => intro e; cases e
  | cons c r =>
    by_cases h43 : c.toNat = 43
    · obtain rfl : c = 43 := UInt8.toNat_inj.1 h43
      rw [bare_pos (fun r e => by injection e with e1 _; revert e1; decide)] at h
      rw [Lib.parseIntB_plus]
      rcases key r (by simp at h; omega) with hk | ⟨u, hk, hu⟩
      · rw [hk]; exact fun e => absurd (show Lib.parseIntB 64 [] = .range from e) (by decide)
      · rw [hk]
        show (if 2 ^ (64 - 1) ≤ u then Lib.NumEnd.range else Lib.NumEnd.ok (u : Int)) ≠ _
        rw [if_neg (by omega)]; intro e; cases e
    · by_cases h45 : c.toNat = 45
      · obtain rfl : c = 45 := UInt8.toNat_inj.1 h45
        rw [bare_neg] at h
        rw [Lib.parseIntB_minus]
        rcases key r h with hk | ⟨u, hk, hu⟩
        · rw [hk]; exact fun e => absurd (show Lib.parseIntB 64 [] = .range from e) (by decide)
        · rw [hk]
          show (if 2 ^ (64 - 1) < u then Lib.NumEnd.range else Lib.NumEnd.ok (-(u : Int))) ≠ _
          rw [if_neg (by omega)]; intro e; cases e
      · rw [bare_pos (fun r e => by injection e with e1 _; rw [e1] at h45; exact h45 rfl)] at h
        rw [Lib.parseIntB_plain 64 c r h43 h45]
        rcases key (c :: r) h with hk | ⟨u, hk, hu⟩
        · rw [hk]; exact fun e => absurd (show Lib.parseIntB 64 [] = .range from e) (by decide)
        · rw [hk]
          show (if 2 ^ (64 - 1) ≤ u then Lib.NumEnd.range else Lib.NumEnd.ok (u : Int)) ≠ _
          rw [if_neg (by omega)]; intro e; cases e
/-! cutting at one byte -/
def jnC (c : UInt8) : List (List UInt8) → List UInt8
  | [] => []
  | [x] => x
  | x :: y :: r => x ++ c :: jnC c (y :: r)
structure IsCut (c : UInt8) (L : List (List UInt8)) (l : List UInt8) : Prop where
  ne : L ≠ []
  no : ∀ x ∈ L, c ∉ x
  jn : jnC c L = l
theorem app_uniq {c : UInt8} : ∀ (x y t u : List UInt8), c ∉ x → c ∉ y → x ++ c :: t = y ++ c :: u → x = y ∧ t = u
  | [], [], t, u, _, _, h => by simpa using h
  | [], b :: y, t, u, _, hy, h => by
    injection h with h1 _
    exact absurd (List.mem_cons.2 (Or.inl h1)) hy
  | b :: x, [], t, u, hx, _, h => by
    injection h with h1 _
    exact absurd (List.mem_cons.2 (Or.inl h1.symm)) hx
  | b :: x, d :: y, t, u, hx, hy, h => by
    injection h with h1 h2
    obtain ⟨h3, h4⟩ := app_uniq x y t u (fun e => hx (List.mem_cons_of_mem _ e)) (fun e => hy (List.mem_cons_of_mem _ e)) h2
    exact ⟨by rw [h1, h3], h4⟩
theorem IsCut.uniq {c : UInt8} : ∀ {L M : List (List UInt8)} {l : List UInt8}, IsCut c L l → IsCut c M l → L = M
  | [], _, _, h, _ => absurd rfl h.ne
  | _ :: _, [], _, _, h => absurd rfl h.ne
  | [x], [y], l, h1, h2 => by
    have e1 : x = l := h1.jn
    have e2 : y = l := h2.jn
    rw [e1, e2]
  | [x], y :: z :: M, l, h1, h2 => by
    have e1 : x = l := h1.jn
    have e2 : y ++ c :: jnC c (z :: M) = l := h2.jn
    refine absurd ?_ (h1.no x (List.mem_cons_self ..))
    rw [e1, ← e2]; simp
  | x :: z :: L, [y], l, h1, h2 => by
    have e1 : y = l := h2.jn
    have e2 : x ++ c :: jnC c (z :: L) = l := h1.jn
    refine absurd ?_ (h2.no y (List.mem_cons_self ..))
    rw [e1, ← e2]; simp
  | x :: z :: L, y :: v :: M, l, h1, h2 => by
    have e1 : x ++ c :: jnC c (z :: L) = l := h1.jn
    have e2 : y ++ c :: jnC c (v :: M) = l := h2.jn
    obtain ⟨h3, h4⟩ := app_uniq x y _ _ (h1.no x (List.mem_cons_self ..)) (h2.no y (List.mem_cons_self ..)) (e1.trans e2.symm)
    have ih : z :: L = v :: M := IsCut.uniq (l := jnC c (z :: L)) ⟨by simp, fun w hw => h1.no w (List.mem_cons_of_mem _ hw), rfl⟩ ⟨by simp, fun w hw => h2.no w (List.mem_cons_of_mem _ hw), h4.symm⟩
    rw [h3, ih]
theorem index_none (c : UInt8) : ∀ l : List UInt8, c ∉ l → Lib.index l [c] = -1
  | [], _ => by simp [Lib.index]
  | b :: l, h => by
    have hb : c ≠ b := fun e => h (by rw [e]; exact List.mem_cons_self ..)
    have hp : ([c] : List UInt8).isPrefixOf (b :: l) = false := by simp [List.isPrefixOf, hb]
    rw [Lib.index, hp, index_none c l (fun e => h (List.mem_cons_of_mem _ e))]
    rfl
theorem index_one (c : UInt8) (t : List UInt8) : ∀ p : List UInt8, c ∉ p → Lib.index (p ++ c :: t) [c] = (p.length : Int)
  | [], _ => by simp [Lib.index, List.isPrefixOf]
  | b :: l, h => by
    have hb : c ≠ b := fun e => h (by rw [e]; exact List.mem_cons_self ..)
    have hp : ([c] : List UInt8).isPrefixOf (b :: (l ++ c :: t)) = false := by simp [List.isPrefixOf, hb]
    have ih := index_one c t l (fun e => h (List.mem_cons_of_mem _ e))
    rw [List.cons_append, Lib.index, hp, ih]
    have hm : ((l.length : Int) == -1) = false := by rw [beq_eq_false_iff_ne]; omega
    rw [hm]
    simp
theorem first_of {c : UInt8} : ∀ {l : List UInt8}, c ∈ l → ∃ p t, l = p ++ c :: t ∧ c ∉ p
  | b :: l, h => by
    by_cases hb : b = c
    · exact ⟨[], l, by rw [hb]; rfl, by simp⟩
    · rcases List.mem_cons.1 h with h | h
      · exact absurd h.symm hb
      · obtain ⟨p, t, e, hp⟩ := first_of h
        exact ⟨b :: p, t, by rw [e]; rfl, fun m => by rcases List.mem_cons.1 m with m | m; exact hb m.symm; exact hp m⟩
theorem splitK_cut (c : UInt8) : ∀ (k : Nat) (l : List UInt8), l.count c = k → IsCut c (Lib.splitK [c] 0 k l) l
  | 0, l, h => by
    refine ⟨by simp [Lib.splitK], fun x hx => ?_, by simp [Lib.splitK, jnC]⟩
    simp [Lib.splitK] at hx
    rw [hx]
    exact List.count_eq_zero.1 h
  | k + 1, l, h => by
    obtain ⟨p, t, rfl, hp⟩ := first_of (List.count_pos_iff.1 (by omega : 0 < l.count c))
    have hc : t.count c = k := by
      rw [List.count_append, List.count_cons_self, List.count_eq_zero.2 hp] at h
      omega
    have ih := splitK_cut c k t hc
    have e : Lib.splitK [c] 0 (k + 1) (p ++ c :: t) = p :: Lib.splitK [c] 0 k t := by
      rw [Lib.splitK, index_one c t p hp]
      simp
    rw [e]
    refine ⟨by simp, fun x hx => ?_, ?_⟩
    · rcases List.mem_cons.1 hx with rfl | hx
      · exact hp
      · exact ih.no x hx
    · have hj := ih.jn
      cases hL : Lib.splitK [c] 0 k t with
      | nil => exact absurd hL ih.ne
      | cons y r =>
        rw [hL] at hj
        show p ++ c :: jnC c (y :: r) = _
        rw [hj]
def cutC (c : UInt8) (s : ByteArray) : List ByteArray := Lib.splitB ⟨#[c]⟩ 0 (Lib.countB s ⟨#[c]⟩) s
theorem cutC_cut (c : UInt8) (s : ByteArray) : IsCut c ((cutC c s).map (·.data.toList)) s.data.toList := by
  have h := splitK_cut c _ s.data.toList rfl
  have e : Lib.countB s ⟨#[c]⟩ = s.data.toList.count c := Lib.count_one c s.data.toList
  unfold cutC
  rw [Lib.splitB_data, e]
  exact h
theorem ba_ext {s t : ByteArray} (h : s.data.toList = t.data.toList) : s = t := by
  obtain ⟨⟨l⟩⟩ := s
  obtain ⟨⟨m⟩⟩ := t
  simp at h
  rw [h]
theorem map_ba : ∀ {L M : List ByteArray}, L.map (·.data.toList) = M.map (·.data.toList) → L = M
  | [], [], _ => rfl
  | [], _ :: _, h => by cases h
  | _ :: _, [], h => by cases h
  | x :: L, y :: M, h => by
    injection h with h1 h2
    rw [ba_ext h1, map_ba h2]
theorem cutC_uniq {c : UInt8} {s : ByteArray} {L : List ByteArray} (h : IsCut c (L.map (·.data.toList)) s.data.toList) : cutC c s = L := by
  exact map_ba ((cutC_cut c s).uniq h)
theorem ex_list (s : ByteArray) (a : Nat) : (s.extract a s.size).data.toList = s.data.toList.drop a := Lib.extract_to_end s a
theorem cutC_no {c : UInt8} {s : ByteArray} {f : Nat} (h : ∀ j (hj : j < s.size), f ≤ j → s[j]'hj ≠ c) : cutC c (s.extract f s.size) = [s.extract f s.size] := by
  refine cutC_uniq ⟨by simp, fun x hx => ?_, rfl⟩
  simp at hx
  subst hx
  have : (s.extract f s.size).data.toList = s.data.toList.drop f := ex_list s f
  intro hm
  have hm : c ∈ s.data.toList.drop f := by rw [← this]; simpa using hm
  obtain ⟨j, hj, e⟩ := List.mem_iff_getElem.1 hm
  rw [List.getElem_drop] at e
  have hlen : s.data.toList.length = s.size := Array.length_toList
  rw [List.length_drop] at hj
  exact h (f + j) (by omega) (by omega) e
theorem cutC_yes {c : UInt8} {s : ByteArray} {f i : Nat} (hfi : f ≤ i) (hi : i < s.size) (h : ∀ j (hj : j < s.size), f ≤ j → j < i → s[j]'hj ≠ c) (he : s[i]'hi = c) : cutC c (s.extract f s.size) = s.extract f i :: cutC c (s.extract (i + 1) s.size) := by
  have hlen : s.data.toList.length = s.size := Array.length_toList
  have hd : s.data.toList.drop f = (s.data.toList.drop f).take (i - f) ++ c :: s.data.toList.drop (i + 1) := by
    have h1 : s.data.toList.drop i = c :: s.data.toList.drop (i + 1) := by
      rw [List.drop_eq_getElem_cons (by omega)]
      congr 1
    rw [← h1]
    have h2 : s.data.toList.drop i = (s.data.toList.drop f).drop (i - f) := by rw [List.drop_drop]; congr 1; omega
    rw [h2, List.take_append_drop]
  have hx : (s.extract f i).data.toList = (s.data.toList.drop f).take (i - f) := Lib.extract_data s f i
  have hno : c ∉ (s.extract f i).data.toList := by
    rw [hx]
    intro hm
    obtain ⟨j, hj, e⟩ := List.mem_iff_getElem.1 hm
    rw [List.length_take, List.length_drop] at hj
    rw [List.getElem_take, List.getElem_drop] at e
    exact h (f + j) (by omega) (by omega) (by omega) e
  have hr := cutC_cut c (s.extract (i + 1) s.size)
  refine cutC_uniq ⟨by simp, fun x hm => ?_, ?_⟩
  · rw [List.map_cons] at hm
    rcases List.mem_cons.1 hm with rfl | hm
    · exact hno
    · exact hr.no x hm
  · have hj := hr.jn
    rw [List.map_cons]
    cases hL : (cutC c (s.extract (i + 1) s.size)).map (·.data.toList) with
    | nil => exact absurd hL hr.ne
    | cons y r =>
      rw [hL] at hj
      show (s.extract f i).data.toList ++ c :: jnC c (y :: r) = _
      rw [hj, hx, ex_list, ex_list, ← hd]
theorem cutC_full (s : ByteArray) : s.extract 0 s.size = s := by
  apply ba_ext
  rw [ex_list]; rfl
theorem cutC_len (c : UInt8) (s : ByteArray) : (cutC c s).length = Lib.countB s ⟨#[c]⟩ + 1 := Lib.splitB_all ⟨#[c]⟩ (Nat.le_refl 1) 0 _ s rfl
theorem cutC_le (c : UInt8) (s : ByteArray) : (cutC c s).length ≤ s.size + 1 := by
  rw [cutC_len]
  have := Lib.countB_le ⟨#[c]⟩ (Nat.le_refl 1) s.size s (Nat.le_refl _)
  omega
/-- the library's Cut at two dots, at a slash -/
theorem index_two (t : List UInt8) : ∀ p : List UInt8, (46 : UInt8) ∉ p → Lib.index (p ++ 46 :: 46 :: t) [46, 46] = (p.length : Int)
  | [], _ => by simp [Lib.index, List.isPrefixOf]
  | b :: l, h => by
    have hb : (46 : UInt8) ≠ b := fun e => h (by rw [e]; exact List.mem_cons_self ..)
    have hp : ([46, 46] : List UInt8).isPrefixOf (b :: (l ++ 46 :: 46 :: t)) = false := by simp [List.isPrefixOf, hb]
    have ih := index_two t l (fun e => h (List.mem_cons_of_mem _ e))
    rw [List.cons_append, Lib.index, hp, ih]
    have hm : ((l.length : Int) == -1) = false := by rw [beq_eq_false_iff_ne]; omega
    rw [hm]
    simp
theorem cut_two {p : List UInt8} (t : List UInt8) (h : (46 : UInt8) ∉ p) : Lib.cut (p ++ 46 :: 46 :: t) [46, 46] = (p, t, true) := by
  unfold Lib.cut
  rw [index_two t p h, if_pos (by omega)]
  simp
theorem cut_one {c : UInt8} {p : List UInt8} (t : List UInt8) (h : c ∉ p) : Lib.cut (p ++ c :: t) [c] = (p, t, true) := by
  unfold Lib.cut
  rw [index_one c t p h, if_pos (by omega)]
  simp
end Go.Proofs.YtdpmdifdnneinaaDoor
