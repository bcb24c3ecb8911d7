/-
  The least and the greatest of some numbers.
-/
import Derived.Test.YthmiahekijeehaaGreatBasic
import Derived.Test.YthmiahekijeehaaGreatTimes
namespace Go.Proofs.YthmiahekijeehaaGreat
open Go.RowKit
set_option maxRecDepth 100000

theorem l06Time_lit (n : Int) (r : Bool) (w : World) (h : inB n 0 10000000 = r) : Calls Tryz.prog 71 #[.int .i64 n] w fun e w' => e = .returned (.bool r) ∧ w = w' := by
  go_enter Tryz.func71, Tryz.ntmps71
  go_wp2_with fail
  refine (l00In_lit n _ _ r _ h).mono ?_
  rintro e w' ⟨rfl, rfl⟩
  go_wp2_with fail
  go_ret
  exact ⟨rfl, rfl⟩
theorem l02Mag_lit (n : Int) (r : Bool) (w : World) (h : inB n (-2000) 20000 = r) : Calls Tryz.prog 72 #[.int .i64 n] w fun e w' => e = .returned (.bool r) ∧ w = w' := by
  go_enter Tryz.func72, Tryz.ntmps72
  go_wp2_with fail
  refine (l00In_lit n _ _ r _ h).mono ?_
  rintro e w' ⟨rfl, rfl⟩
  go_wp2_with fail
  go_ret
  exact ⟨rfl, rfl⟩
theorem ValidMag_lit (n : Int) (r : Bool) (w : World) (h : inB n (-2000) 20000 = r) : Calls Tryz.prog 69 #[.int .i64 n] w fun e w' => e = .returned (.bool r) ∧ w = w' := by
  go_enter Tryz.func69, Tryz.ntmps69
  go_wp2_with fail
  refine (in_lit n _ _ r _ h).mono ?_
  rintro e w' ⟨rfl, rfl⟩
  go_wp2_with fail
  go_ret
  exact ⟨rfl, rfl⟩
open Go.RowKit
set_option maxRecDepth 100000

def minL : List Int → Int
  | [] => 0
  | x :: l => l.foldl min x
def maxL : List Int → Int
  | [] => 0
  | x :: l => l.foldl max x
theorem minL_snoc {l : List Int} (h : l ≠ []) (x : Int) : minL (l ++ [x]) = min (minL l) x := by
  cases l with
  | nil => exact absurd rfl h
  | cons y l => simp [minL, List.foldl_append]
theorem maxL_snoc {l : List Int} (h : l ≠ []) (x : Int) : maxL (l ++ [x]) = max (maxL l) x := by
  cases l with
  | nil => exact absurd rfl h
  | cons y l => simp [maxL, List.foldl_append]
theorem take_ne {α : Type} {l : List α} {k : Nat} (h0 : 1 ≤ k) (h1 : k ≤ l.length) : l.take k ≠ [] := by
  intro h
  have := congrArg List.length h
  rw [List.length_take, List.length_nil] at this
  omega
theorem minK_step {l : List Int} {k : Nat} {x : Int} (h0 : 1 ≤ k) (hx : l[k]? = some x) : minL (l.take (k + 1)) = min (minL (l.take k)) x := by
  obtain ⟨h1, h2⟩ := List.getElem?_eq_some_iff.1 hx
  rw [List.take_succ_eq_append_getElem h1, h2]
  exact minL_snoc (take_ne h0 (by omega)) x
theorem maxK_step {l : List Int} {k : Nat} {x : Int} (h0 : 1 ≤ k) (hx : l[k]? = some x) : maxL (l.take (k + 1)) = max (maxL (l.take k)) x := by
  obtain ⟨h1, h2⟩ := List.getElem?_eq_some_iff.1 hx
  rw [List.take_succ_eq_append_getElem h1, h2]
  exact maxL_snoc (take_ne h0 (by omega)) x
theorem minK_one {l : List Int} {x : Int} (hx : l[0]? = some x) : minL (l.take 1) = x := by
  cases l with
  | nil => simp at hx
  | cons y l => simp at hx; subst hx; rfl
theorem maxK_one {l : List Int} {x : Int} (hx : l[0]? = some x) : maxL (l.take 1) = x := by
  cases l with
  | nil => simp at hx
  | cons y l => simp at hx; subst hx; rfl
theorem foldl_min_in {lo hi : Int} : ∀ (l : List Int) (x : Int), lo ≤ x → x ≤ hi → (∀ y ∈ l, lo ≤ y ∧ y ≤ hi) → lo ≤ l.foldl min x ∧ l.foldl min x ≤ hi
  | [], x, h0, h1, _ => ⟨h0, h1⟩
  | y :: l, x, h0, h1, h => by
    obtain ⟨h2, h3⟩ := h y (by simp)
    exact foldl_min_in l (min x y) (by omega) (by omega) fun z hz => h z (by simp [hz])
theorem foldl_max_in {lo hi : Int} : ∀ (l : List Int) (x : Int), lo ≤ x → x ≤ hi → (∀ y ∈ l, lo ≤ y ∧ y ≤ hi) → lo ≤ l.foldl max x ∧ l.foldl max x ≤ hi
  | [], x, h0, h1, _ => ⟨h0, h1⟩
  | y :: l, x, h0, h1, h => by
    obtain ⟨h2, h3⟩ := h y (by simp)
    exact foldl_max_in l (max x y) (by omega) (by omega) fun z hz => h z (by simp [hz])
theorem minL_in {l : List Int} {lo hi : Int} (h : ∀ y ∈ l, lo ≤ y ∧ y ≤ hi) (h0 : l ≠ []) : lo ≤ minL l ∧ minL l ≤ hi := by
  cases l with
  | nil => exact absurd rfl h0
  | cons x l => exact foldl_min_in l x (h x (by simp)).1 (h x (by simp)).2 fun z hz => h z (by simp [hz])
theorem maxL_in {l : List Int} {lo hi : Int} (h : ∀ y ∈ l, lo ≤ y ∧ y ≤ hi) (h0 : l ≠ []) : lo ≤ maxL l ∧ maxL l ≤ hi := by
  cases l with
  | nil => exact absurd rfl h0
  | cons x l => exact foldl_max_in l x (h x (by simp)).1 (h x (by simp)).2 fun z hz => h z (by simp [hz])
theorem minL_le : ∀ {l : List Int} {x : Int}, x ∈ l → minL l ≤ x := by
  intro l
  cases l with
  | nil => intro x h; simp at h
  | cons y l =>
    intro x h
    show l.foldl min y ≤ x
    have key : ∀ (l : List Int) (y : Int), l.foldl min y ≤ y ∧ ∀ x ∈ l, l.foldl min y ≤ x := by
      intro l
      induction l with
      | nil => intro y; exact ⟨Int.le_refl _, by simp⟩
      | cons z l ih =>
        intro y
        obtain ⟨h1, h2⟩ := ih (min y z)
        refine ⟨by show l.foldl min (min y z) ≤ y; omega, fun x hx => ?_⟩
        show l.foldl min (min y z) ≤ x
        rcases List.mem_cons.1 hx with rfl | hx
        · omega
        · exact h2 x hx
    rcases List.mem_cons.1 h with rfl | h
    · exact (key l _).1
    · exact (key l y).2 x h
theorem le_maxL : ∀ {l : List Int} {x : Int}, x ∈ l → x ≤ maxL l := by
  intro l
  cases l with
  | nil => intro x h; simp at h
  | cons y l =>
    intro x h
    show x ≤ l.foldl max y
    have key : ∀ (l : List Int) (y : Int), y ≤ l.foldl max y ∧ ∀ x ∈ l, x ≤ l.foldl max y := by
      intro l
      induction l with
      | nil => intro y; exact ⟨Int.le_refl _, by simp⟩
      | cons z l ih =>
        intro y
        obtain ⟨h1, h2⟩ := ih (max y z)
        refine ⟨by show y ≤ l.foldl max (max y z); omega, fun x hx => ?_⟩
        show x ≤ l.foldl max (max y z)
        rcases List.mem_cons.1 hx with rfl | hx
        · omega
        · exact h2 x hx
    rcases List.mem_cons.1 h with rfl | h
    · exact (key l _).1
    · exact (key l y).2 x h
set_option maxHeartbeats 1000000 in
theorem Min_any (xs : List Int) (a : Option Addr) (n c : Nat) (w : World) (h1 : 1 ≤ n) (hn : n ≤ 1048576) (hl : xs.length = n) (hr : Rd eI 1 w a xs) :
    Calls Tryz.prog 76 #[.slice a n c] w fun e w' => e = .returned (.int .i64 (minL xs)) ∧ w = w' := by
  have HL := Lib.hid hl
  obtain ⟨x0, hx0, _⟩ := take_snoc' xs 0 (by omega)
  obtain ⟨b, o, rfl, _, hc0⟩ := hr.at1 hx0 rfl
  rw [Nat.add_zero] at hc0
  have H0 := Lib.hid (minK_one hx0)
  have d0 : decide ((n : Int) < 1) = false := by simp; omega
  have d2 : decide (n < 1) = false := by simp; omega
  have d1 : (0 : Int) < (n : Int) := by omega
  have d3 : 0 < n := by omega
  clear hl hx0
  go_enter Tryz.func76, Tryz.ntmps76
  go_wp2_with fail
  go_loop [3, 4] (fun m i => ∃ k : Nat, 1 ≤ k ∧ k ≤ n ∧ i = .int .i64 k ∧ m = .int .i64 (minL (xs.take k))) (fun _ i => n - (intOf i).toNat)
  case atStart => exact ⟨1, Nat.le_refl _, h1, rfl, by rw [H0.out]⟩
  case round =>
    obtain ⟨k, hk1, hk, rfl, rfl⟩ := hrel
    clear hc0 d0 d2
    by_cases hlt : k < n
    · obtain ⟨x, hx, _⟩ := take_snoc' xs k (by rw [HL.out]; exact hlt)
      obtain ⟨b', o', he, _, hc⟩ := hr.at1 hx rfl
      simp only [Option.some.injEq, Addr.mk.injEq, and_true] at he
      obtain ⟨rfl, rfl⟩ := he
      have HST := Lib.hid (minK_step hk1 hx)
      generalize minL (xs.take k) = z at *
      clear hx
      by_cases hlx : x < z
      · have HZ : Hid (minL (xs.take (k + 1)) = x) := Lib.hid (by rw [HST.out]; omega)
        go_wp2_with fail
        go_round
        case rel => exact ⟨k + 1, by omega, by omega, by go_num, by rw [HZ.out]⟩
        case measure => simp [intOf]; omega
      · have HZ : Hid (minL (xs.take (k + 1)) = z) := Lib.hid (by rw [HST.out]; omega)
        go_wp2_with fail
        go_round
        case rel => exact ⟨k + 1, by omega, by omega, by go_num, by rw [HZ.out]⟩
        case measure => simp [intOf]; omega
    · have hkn : xs.take k = xs := List.take_of_length_le (by rw [HL.out]; omega)
      rw [hkn]
      clear hkn
      go_wp2_with fail
      go_ret
      exact ⟨rfl, rfl⟩
/-- magnitudes, not too many -/
def magsB (xs : List Int) : Bool := decide (xs.length ≤ 100) && xs.all fun x => inB x (-2000) 20000
def someC (xs : List Int) : Int := if magsB xs = true then (if xs = [] then 3 else 0) else 2
theorem magsB_all {xs : List Int} (h : magsB xs = true) : xs.length ≤ 100 ∧ ∀ x ∈ xs, -2000 ≤ x ∧ x ≤ 20000 := by
  unfold magsB at h
  simp only [Bool.and_eq_true, decide_eq_true_eq] at h
  exact ⟨h.1, fun x hx => inB_iff.1 (List.all_eq_true.1 h.2 x hx)⟩
theorem magsB_of {xs : List Int} (h1 : xs.length ≤ 100) (h2 : ∀ x ∈ xs, -2000 ≤ x ∧ x ≤ 20000) : magsB xs = true := by
  unfold magsB
  rw [decide_eq_true h1, Bool.true_and, List.all_eq_true]
  exact fun x hx => inB_iff.2 (h2 x hx)
def rngLo (xs : List Int) : Int := if someC xs = 0 then minL xs else 0
def rngHi (xs : List Int) : Int := if someC xs = 0 then maxL xs else 0
theorem someC_0 {xs : List Int} (h : someC xs = 0) : magsB xs = true ∧ xs ≠ [] := by
  unfold someC at h
  split at h
  · rename_i h1
    split at h
    · cases h
    · exact ⟨h1, ‹_›⟩
  · cases h
theorem someC_le (xs : List Int) : 0 ≤ someC xs ∧ someC xs ≤ 3 := by unfold someC; split <;> (try split) <;> omega
end Go.Proofs.YthmiahekijeehaaGreat
