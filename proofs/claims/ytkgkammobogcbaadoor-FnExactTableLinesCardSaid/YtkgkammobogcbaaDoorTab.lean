/-
  Tables: whether one is valid, and how wide its columns are.
-/
import Derived.Test.YtkgkammobogcbaaDoorGrid
import Derived.Test.YtkgkammobogcbaaDoorPlain
import Derived.Test.YtkgkammobogcbaaDoorMin
import Derived.Test.YtkgkammobogcbaaDoorHarnInt64
import Derived.Deep.CutRange
import Derived.Deep.Light
namespace Go.Proofs.YtkgkammobogcbaaDoor
open Go.RowKit
set_option maxRecDepth 100000

def plainT (t : List (List ByteArray)) : Bool := t.all fun r => r.all plainB
def okR (m : Nat) (r : List ByteArray) : Bool := decide (r.length = m) && decide (r.length ≤ 8) && r.all fun s => decide (s.size ≤ 80)
def shapeT (t : List (List ByteArray)) : Bool := decide (t.length ≤ 60) && t.all (okR (t.headD []).length)
def tabC (t : List (List ByteArray)) : Int := if plainT t = true then (if shapeT t = true then 0 else 2) else 7
theorem tabC_7 {t : List (List ByteArray)} {r : List ByteArray} {s : ByteArray} (hr : r ∈ t) (hs : s ∈ r) (h : plainB s = false) : tabC t = 7 := by
  have : plainT t = false := by
    unfold plainT
    rw [List.all_eq_false]
    exact ⟨r, hr, by simp only [Bool.not_eq_true]; rw [List.all_eq_false]; exact ⟨s, hs, by simp [h]⟩⟩
  unfold tabC
  rw [if_neg (by simp [this])]
theorem plainT_ok {t : List (List ByteArray)} (h : ∀ r ∈ t, ∀ s ∈ r, plainB s = true) : plainT t = true := by
  unfold plainT
  rw [List.all_eq_true]
  intro r hr
  rw [List.all_eq_true]
  exact h r hr
theorem tabC_2 {t : List (List ByteArray)} (hp : plainT t = true) (h : shapeT t = false) : tabC t = 2 := by unfold tabC; rw [if_pos hp, if_neg (by simp [h])]
theorem tabC_0 {t : List (List ByteArray)} (hp : plainT t = true) (h : shapeT t = true) : tabC t = 0 := by unfold tabC; rw [if_pos hp, if_pos h]
theorem tabC_ok {t : List (List ByteArray)} (h : tabC t = 0) : plainT t = true ∧ shapeT t = true := by
  unfold tabC at h
  split at h
  · split at h
    · exact ⟨‹_›, ‹_›⟩
    · cases h
  · cases h
theorem shapeT_long {t : List (List ByteArray)} (h : 60 < t.length) : shapeT t = false := by unfold shapeT; simp; intro h'; omega
theorem shapeT_bad {t : List (List ByteArray)} {r : List ByteArray} (hr : r ∈ t) (h : okR (t.headD []).length r = false) : shapeT t = false := by
  unfold shapeT
  have : t.all (okR (t.headD []).length) = false := by rw [List.all_eq_false]; exact ⟨r, hr, by rw [h]; decide⟩
  rw [this, Bool.and_false]
theorem shapeT_ok {t : List (List ByteArray)} (hl : t.length ≤ 60) (h : ∀ r ∈ t, okR (t.headD []).length r = true) : shapeT t = true := by
  unfold shapeT
  rw [List.all_eq_true.2 h]
  simp [hl]
theorem okR_len {m : Nat} {r : List ByteArray} (h : r.length ≠ m) : okR m r = false := by unfold okR; simp [h]
theorem okR_wide {m : Nat} {r : List ByteArray} (h : 8 < r.length) : okR m r = false := by
  unfold okR
  rw [show decide (r.length ≤ 8) = false by simp; omega]
  simp
theorem okR_long {m : Nat} {r : List ByteArray} {s : ByteArray} (hs : s ∈ r) (h : 80 < s.size) : okR m r = false := by
  unfold okR
  have : (r.all fun s => decide (s.size ≤ 80)) = false := by rw [List.all_eq_false]; exact ⟨s, hs, by simp; omega⟩
  rw [this, Bool.and_false]
theorem okR_ok {m : Nat} {r : List ByteArray} (h1 : r.length = m) (h2 : r.length ≤ 8) (h3 : ∀ s ∈ r, s.size ≤ 80) : okR m r = true := by
  unfold okR
  rw [List.all_eq_true.2 (fun s hs => by simp [h3 s hs])]
  simp [h1]; omega
theorem okR_parts {m : Nat} {r : List ByteArray} (h : okR m r = true) : r.length = m ∧ r.length ≤ 8 ∧ ∀ s ∈ r, s.size ≤ 80 := by
  unfold okR at h
  simp only [Bool.and_eq_true, decide_eq_true_eq] at h
  exact ⟨h.1.1, h.1.2, fun s hs => by have := List.all_eq_true.1 h.2 s hs; simpa using this⟩
theorem shapeT_parts {t : List (List ByteArray)} (h : shapeT t = true) : t.length ≤ 60 ∧ ∀ r ∈ t, r.length = (t.headD []).length ∧ r.length ≤ 8 ∧ ∀ s ∈ r, s.size ≤ 80 := by
  unfold shapeT at h
  simp only [Bool.and_eq_true, decide_eq_true_eq] at h
  exact ⟨h.1, fun r hr => okR_parts (List.all_eq_true.1 h.2 r hr)⟩
/-- all rows before k are good -/
def Upto {α : Type} (p : α → Prop) (l : List α) (k : Nat) : Prop := ∀ i x, i < k → l[i]? = some x → p x
theorem Upto.zero {α : Type} {p : α → Prop} {l : List α} : Upto p l 0 := fun i _ h => absurd h (by omega)
theorem Upto.step {α : Type} {p : α → Prop} {l : List α} {k : Nat} {x : α} (h : Upto p l k) (hx : l[k]? = some x) (hp : p x) : Upto p l (k + 1) := by
  intro i y hi hy
  by_cases hik : i < k
  · exact h i y hik hy
  · obtain rfl : i = k := by omega
    rw [hx] at hy; cases hy; exact hp
theorem Upto.all {α : Type} {p : α → Prop} {l : List α} {k : Nat} (h : Upto p l k) (hk : l.length ≤ k) : ∀ x ∈ l, p x := by
  intro x hx
  obtain ⟨i, hi⟩ := List.mem_iff_getElem?.1 hx
  exact h i x (by have := (List.getElem?_eq_some_iff.1 hi).1; omega) hi
theorem head_row {rows : List Row} {r : Row} (h : rows[0]? = some r) : ((rows.map Row.xs).headD []).length = r.xs.length := by
  cases rows with
  | nil => simp at h
  | cons x l => simp at h; subst h; rfl
theorem mem_xs {rows : List Row} {r : Row} {k : Nat} (h : rows[k]? = some r) : r.xs ∈ rows.map Row.xs := List.mem_map.2 ⟨r, List.mem_of_getElem? h, rfl⟩
theorem isPlain_lit (s : ByteArray) (r : Bool) (w : World) (hs : s.size ≤ 9223372036854775807) (h : plainB s = r) : Calls Tryd.prog 26 #[.string s] w fun e w' => e = .returned (.bool r) ∧ w = w' := by subst h; exact isPlain_any s w hs
theorem l24Plain_lit (s : ByteArray) (r : Bool) (w : World) (hs : s.size ≤ 9223372036854775807) (h : plainB s = r) : Calls Tryd.prog 23 #[.string s] w fun e w' => e = .returned (.bool r) ∧ w = w' := by subst h; exact l24Plain_any s w hs
theorem okSizeS {s : ByteArray} (h : StrOk s) : s.size ≤ 9223372036854775807 := by unfold StrOk maxLen at h; omega
set_option maxHeartbeats 4000000 in
theorem checkTable_any (rows : List Row) (a : Option Addr) (n c : Nat) (w : World) (hn : n ≤ 1048576) (hl : rows.length = n) (hs : RowsOk w rows) (hr : Rd Row.enc 1 w a rows) :
    Calls Tryd.prog 52 #[.slice a n c] w fun e w' => e = .returned (.int .i64 (tabC (rows.map Row.xs))) ∧ w = w' := by
  have HL := Lib.hid hl
  have HS := Lib.hid hs
  clear hl hs
  generalize htc : tabC (rows.map Row.xs) = tc
  have HTC := Lib.hid htc
  clear htc
  go_enter Tryd.func52, Tryd.ntmps52
  go_wp2_with fail
  go_loop [13] (fun i => ∃ k : Nat, k ≤ n ∧ i = .int .i64 k ∧ Hid (Upto (fun r => ∀ s ∈ r.xs, plainB s = true) rows k)) (fun i => n - (intOf i).toNat)
  case atStart => exact ⟨0, Nat.zero_le _, rfl, Lib.hid Upto.zero⟩
  case round =>
    obtain ⟨k, hk, rfl, HK⟩ := hrel
    by_cases hlt : k < n
    · obtain ⟨x, hx, htk⟩ := take_snoc' rows k (by rw [HL.out]; exact hlt)
      obtain ⟨b, o, rfl, hbl, hc⟩ := hr.at1 hx rfl
      have hok := Lib.hid (HS.out x (List.mem_of_getElem? hx))
      have HX := Lib.hid hx
      obtain ⟨xa, xn, xc, xs⟩ := x
      simp only at hc
      have hxn : xn ≤ 9223372036854775807 := by have := hok.out.2.1; unfold maxLen at this; simp only at this; omega
      clear htk hx hr
      go_wp2_with fail
      go_loop [19] (fun i => ∃ m : Nat, m ≤ xn ∧ i = .int .i64 m ∧ Hid (Upto (fun s => plainB s = true) xs m)) (fun i => xn - (intOf i).toNat)
      case atStart => exact ⟨0, Nat.zero_le _, rfl, Lib.hid Upto.zero⟩
      case round =>
        obtain ⟨m, hm, rfl, HM⟩ := hrel
        by_cases hlm : m < xn
        · obtain ⟨s, hs, _⟩ := take_snoc' xs m (by rw [show xs.length = xn from hok.out.1]; exact hlm)
          have hso := okSizeS (hok.out.2.2.1 s (List.mem_of_getElem? hs))
          obtain ⟨b', o', hxa, _, hc'⟩ := (show Rd eS 1 w xa xs from hok.out.2.2.2).at1 hs rfl
          subst hxa
          have HSX := Lib.hid hs
          clear hs
          cases hp : plainB s with
          | true =>
            have HP := Lib.hid hp
            clear hp
            go_wp2_with fail
            refine (isPlain_lit s true _ hso HP.out).mono ?_
            rintro e w' ⟨rfl, rfl⟩
            go_wp2_with fail
            go_round
            case rel => exact ⟨m + 1, by omega, by go_num, Lib.hid (HM.out.step HSX.out HP.out)⟩
            case measure => simp [intOf]; omega
          | false =>
            have HP := Lib.hid hp
            have H7 := Lib.hid (HTC.out.symm.trans (tabC_7 (mem_xs HX.out) (List.mem_of_getElem? HSX.out) hp))
            clear hp
            go_wp2_with fail
            refine (isPlain_lit s false _ hso HP.out).mono ?_
            rintro e w' ⟨rfl, rfl⟩
            go_wp2_with fail
            go_ret
            exact ⟨by rw [H7.out]; rfl, rfl⟩
        · go_wp2_with fail
          go_round
          case rel => exact ⟨k + 1, by omega, by go_num, Lib.hid (HK.out.step HX.out (HM.out.all (by have h1 := hok.out.1; simp only at h1 ⊢; omega)))⟩
          case measure => simp [intOf]; omega
    · have hp : plainT (rows.map Row.xs) = true := by
        refine plainT_ok fun r hr => ?_
        obtain ⟨x, hx, rfl⟩ := List.mem_map.1 hr
        exact HK.out.all (by rw [HL.out]; omega) x hx
      have HP := Lib.hid hp
      clear hp
      by_cases h60 : 60 < n
      · have H2 := Lib.hid (HTC.out.symm.trans (tabC_2 HP.out (shapeT_long (by simp [HL.out]; omega))))
        have d1 : decide ((60 : Int) < (n : Int)) = true := by simp; omega
        have d2 : decide (60 < n) = true := by simp; omega
        go_wp2_with fail
        go_ret
        exact ⟨by rw [H2.out]; rfl, rfl⟩
      · have d1 : decide ((60 : Int) < (n : Int)) = false := by simp; omega
        have d2 : decide (60 < n) = false := by simp; omega
        go_wp2_with fail
        go_loop [33] (fun i => ∃ k : Nat, k ≤ n ∧ i = .int .i64 k ∧ Hid (Upto (fun r => okR ((rows.map Row.xs).headD []).length r.xs = true) rows k)) (fun i => n - (intOf i).toNat)
        case atStart => exact ⟨0, Nat.zero_le _, rfl, Lib.hid Upto.zero⟩
        case round =>
          obtain ⟨k, hk, rfl, HK⟩ := hrel
          by_cases hlt : k < n
          · obtain ⟨x, hx, htk⟩ := take_snoc' rows k (by rw [HL.out]; exact hlt)
            obtain ⟨y, hy, _⟩ := take_snoc' rows 0 (by rw [HL.out]; omega)
            obtain ⟨b, o, rfl, hbl, hc⟩ := hr.at1 hx rfl
            obtain ⟨b1, o1, he, _, hc0⟩ := hr.at1 hy rfl
            simp only [Option.some.injEq, Addr.mk.injEq, and_true] at he
            obtain ⟨rfl, rfl⟩ := he
            rw [Nat.add_zero] at hc0
            have hok := Lib.hid (HS.out x (List.mem_of_getElem? hx))
            have hok0 := Lib.hid (HS.out y (List.mem_of_getElem? hy))
            have HX := Lib.hid hx
            have HHD := Lib.hid (head_row hy)
            obtain ⟨xa, xn, xc, xs⟩ := x
            obtain ⟨ya, yn, yc, ys⟩ := y
            simp only at hc hc0
            have hyl : ys.length = yn := hok0.out.1
            have hxl : xs.length = xn := hok.out.1
            have hxn : xn ≤ 9223372036854775807 := by have := hok.out.2.1; unfold maxLen at this; simp only at this; omega
            have HXL := Lib.hid hxl
            have h0n : 0 < n := by omega
            have HHD2 : Hid (((rows.map Row.xs).headD []).length = yn) := Lib.hid (by rw [HHD.out]; exact hyl)
            by_cases e1 : xn = yn
            · by_cases e2 : 8 < xn
              · have H2 := Lib.hid (HTC.out.symm.trans (tabC_2 HP.out (shapeT_bad (mem_xs HX.out) (okR_wide (by show 8 < xs.length; omega)))))
                have g1 : ((xn : Int) != (yn : Int)) = false := by rw [e1]; simp
                have g2 : decide ((8 : Int) < (xn : Int)) = true := by simp; omega
                have g3 : decide (8 < xn) = true := by simp; omega
                clear htk hx hr hy hyl hxl e1 e2 d1 d2
                go_wp2_with fail
                go_ret
                exact ⟨by rw [H2.out]; rfl, rfl⟩
              · have g1 : ((xn : Int) != (yn : Int)) = false := by rw [e1]; simp
                have g2 : decide ((8 : Int) < (xn : Int)) = false := by simp; omega
                have g3 : decide (8 < xn) = false := by simp; omega
                have E1 := Lib.hid e1
                clear htk hx hr hy hyl hxl e1 d1 d2
                go_wp2_with fail
                clear g1
                go_loop [51] (fun i => ∃ m : Nat, m ≤ xn ∧ i = .int .i64 m ∧ Hid (Upto (fun s => s.size ≤ 80) xs m)) (fun i => xn - (intOf i).toNat)
                case atStart => exact ⟨0, Nat.zero_le _, rfl, Lib.hid Upto.zero⟩
                case round =>
                  obtain ⟨m, hm, rfl, HM⟩ := hrel
                  by_cases hlm : m < xn
                  · obtain ⟨s, hs, _⟩ := take_snoc' xs m (by rw [HXL.out]; exact hlm)
                    obtain ⟨b', o', hxa, _, hc'⟩ := (show Rd eS 1 w xa xs from hok.out.2.2.2).at1 hs rfl
                    subst hxa
                    have HSX := Lib.hid hs
                    clear hs
                    by_cases h80 : 80 < s.size
                    · have H2 := Lib.hid (HTC.out.symm.trans (tabC_2 HP.out (shapeT_bad (mem_xs HX.out) (okR_long (List.mem_of_getElem? HSX.out) h80))))
                      have k1 : decide ((80 : Int) < (s.size : Int)) = true := by simp; omega
                      have k2 : decide (80 < s.size) = true := by simp; omega
                      go_wp2_with fail
                      go_ret
                      exact ⟨by rw [H2.out]; rfl, rfl⟩
                    · have k1 : decide ((80 : Int) < (s.size : Int)) = false := by simp; omega
                      have k2 : decide (80 < s.size) = false := by simp; omega
                      go_wp2_with fail
                      go_round
                      case rel => exact ⟨m + 1, by omega, by go_num, Lib.hid (HM.out.step HSX.out (by omega))⟩
                      case measure => simp [intOf]; omega
                  · go_wp2_with fail
                    go_round
                    case rel => exact ⟨k + 1, by omega, by go_num, Lib.hid (HK.out.step HX.out (okR_ok (by rw [HHD2.out, ← E1.out]; exact HXL.out) (by have := HXL.out; simp only; omega) (HM.out.all (by have := HXL.out; omega))))⟩
                    case measure => simp [intOf]; omega
            · have H2 := Lib.hid (HTC.out.symm.trans (tabC_2 HP.out (shapeT_bad (mem_xs HX.out) (okR_len (by rw [HHD2.out]; show xs.length ≠ yn; omega)))))
              have g1 : ((xn : Int) != (yn : Int)) = true := by rw [bne_iff_ne]; omega
              clear htk hx hr hy hyl hxl d1 d2
              go_wp2_with fail
              go_ret
              exact ⟨by rw [H2.out]; rfl, rfl⟩
          · have H0 := Lib.hid (HTC.out.symm.trans (tabC_0 HP.out (shapeT_ok (by simp [HL.out]; omega) fun r hr => by
              obtain ⟨x, hx, rfl⟩ := List.mem_map.1 hr
              exact HK.out.all (by rw [HL.out]; omega) x hx)))
            go_wp2_with fail
            go_ret
            exact ⟨by rw [H0.out]; rfl, rfl⟩
set_option maxHeartbeats 4000000 in
theorem l24Rows_any (rows : List Row) (a : Option Addr) (n c : Nat) (w : World) (hn : n ≤ 1048576) (hl : rows.length = n) (hs : RowsOk w rows) (hr : Rd Row.enc 1 w a rows) :
    Calls Tryd.prog 31 #[.slice a n c] w fun e w' => e = .returned (.int .i64 (tabC (rows.map Row.xs))) ∧ Below w.heap.size w w' := by
  have HL := Lib.hid hl
  have HS := Lib.hid hs
  clear hl hs
  generalize htc : tabC (rows.map Row.xs) = tc
  have HTC := Lib.hid htc
  clear htc
  go_enter Tryd.func31, Tryd.ntmps31
  go_wp2_with fail
  go_loop [3] (fun i => ∃ k : Nat, k ≤ n ∧ i = .int .i64 k ∧ Hid (Upto (fun r => ∀ s ∈ r.xs, plainB s = true) rows k)) (fun i => n - (intOf i).toNat)
  case atStart => exact ⟨0, Nat.zero_le _, rfl, Lib.hid Upto.zero⟩
  case round =>
    obtain ⟨k, hk, rfl, HK⟩ := hrel
    by_cases hlt : k < n
    · obtain ⟨x, hx, htk⟩ := take_snoc' rows k (by rw [HL.out]; exact hlt)
      obtain ⟨b, o, rfl, hbl, hc⟩ := hr.at1 hx rfl
      have hok := Lib.hid (HS.out x (List.mem_of_getElem? hx))
      have HX := Lib.hid hx
      obtain ⟨xa, xn, xc, xs⟩ := x
      simp only at hc
      have hxn : xn ≤ 9223372036854775807 := by have := hok.out.2.1; unfold maxLen at this; simp only at this; omega
      clear htk hx hr
      go_wp2_with fail
      go_loop [4] (fun i => ∃ m : Nat, m ≤ xn ∧ i = .int .i64 m ∧ Hid (Upto (fun s => plainB s = true) xs m)) (fun i => xn - (intOf i).toNat)
      case atStart => exact ⟨0, Nat.zero_le _, rfl, Lib.hid Upto.zero⟩
      case round =>
        obtain ⟨m, hm, rfl, HM⟩ := hrel
        by_cases hlm : m < xn
        · obtain ⟨s, hs, _⟩ := take_snoc' xs m (by rw [show xs.length = xn from hok.out.1]; exact hlm)
          have hso := okSizeS (hok.out.2.2.1 s (List.mem_of_getElem? hs))
          obtain ⟨b', o', hxa, _, hc'⟩ := (show Rd eS 1 w xa xs from hok.out.2.2.2).at1 hs rfl
          subst hxa
          have HSX := Lib.hid hs
          clear hs
          cases hp : plainB s with
          | true =>
            have HP := Lib.hid hp
            clear hp
            go_wp2_with fail
            refine (l24Plain_lit s true _ hso HP.out).mono ?_
            rintro e w' ⟨rfl, rfl⟩
            go_wp2_with fail
            go_round
            case rel => exact ⟨m + 1, by omega, by go_num, Lib.hid (HM.out.step HSX.out HP.out)⟩
            case measure => simp [intOf]; omega
          | false =>
            have HP := Lib.hid hp
            have H7 := Lib.hid (HTC.out.symm.trans (tabC_7 (mem_xs HX.out) (List.mem_of_getElem? HSX.out) hp))
            clear hp
            go_wp2_with fail
            refine (l24Plain_lit s false _ hso HP.out).mono ?_
            rintro e w' ⟨rfl, rfl⟩
            go_wp2_with fail
            go_ret
            exact ⟨by rw [H7.out]; rfl, Below.refl _ _⟩
        · go_wp2_with fail
          go_round
          case rel => exact ⟨k + 1, by omega, by go_num, Lib.hid (HK.out.step HX.out (HM.out.all (by have h1 := hok.out.1; simp only at h1 ⊢; omega)))⟩
          case measure => simp [intOf]; omega
    · have hp : plainT (rows.map Row.xs) = true := by
        refine plainT_ok fun r hr => ?_
        obtain ⟨x, hx, rfl⟩ := List.mem_map.1 hr
        exact HK.out.all (by rw [HL.out]; omega) x hx
      have HP := Lib.hid hp
      clear hp
      go_wp2_with fail
      go_loopw [5] (fun i wr => ∃ k : Nat, k ≤ n ∧ i = .int .i64 k ∧ Hid (Upto (fun r => okR ((rows.map Row.xs).headD []).length r.xs = true) rows k) ∧ Below w.heap.size w wr) (fun i _ => n - (intOf i).toNat)
      case atStart => exact ⟨0, Nat.zero_le _, rfl, Lib.hid Upto.zero, Below.refl _ _⟩
      case round =>
        obtain ⟨k, hk, rfl, HK, hb⟩ := hrel
        by_cases hlt : k < n
        · obtain ⟨x, hx, htk⟩ := take_snoc' rows k (by rw [HL.out]; exact hlt)
          obtain ⟨y, hy, _⟩ := take_snoc' rows 0 (by rw [HL.out]; omega)
          obtain ⟨b, o, rfl, hbl, hc⟩ := (hr.below hb).at1 hx rfl
          obtain ⟨b1, o1, he, _, hc0⟩ := (hr.below hb).at1 hy rfl
          simp only [Option.some.injEq, Addr.mk.injEq, and_true] at he
          obtain ⟨rfl, rfl⟩ := he
          rw [Nat.add_zero] at hc0
          have hok := Lib.hid (HS.out x (List.mem_of_getElem? hx))
          have hok0 := Lib.hid (HS.out y (List.mem_of_getElem? hy))
          have HX := Lib.hid hx
          have HHD := Lib.hid (head_row hy)
          obtain ⟨xa, xn, xc, xs⟩ := x
          obtain ⟨ya, yn, yc, ys⟩ := y
          simp only at hc hc0
          have hyl : ys.length = yn := hok0.out.1
          have hxl : xs.length = xn := hok.out.1
          have hxn : xn ≤ 9223372036854775807 := by have := hok.out.2.1; unfold maxLen at this; simp only at this; omega
          have HXL := Lib.hid hxl
          have h0n : 0 < n := by omega
          have HHD2 : Hid (((rows.map Row.xs).headD []).length = yn) := Lib.hid (by rw [HHD.out]; exact hyl)
          by_cases e1 : xn = yn
          · have g1 : ((xn : Int) != (yn : Int)) = false := by rw [e1]; simp
            have E1 := Lib.hid e1
            by_cases e2 : 8 < xn
            · have H2 := Lib.hid (HTC.out.symm.trans (tabC_2 HP.out (shapeT_bad (mem_xs HX.out) (okR_wide (by show 8 < xs.length; omega)))))
              have g2 : decide ((8 : Int) < (xn : Int)) = true := by simp; omega
              have g3 : decide (8 < xn) = true := by simp; omega
              clear htk hx hr hy hyl hxl e1 e2
              go_wp2_with fail
              go_quiet (fail)
              have hb2 : Below w.heap.size w (wr.drewN nq) := below_drewN hb nq
              go_wp2_with fail
              go_ret
              exact ⟨by rw [H2.out]; rfl, hb2⟩
            · have g2 : decide ((8 : Int) < (xn : Int)) = false := by simp; omega
              have g3 : decide (8 < xn) = false := by simp; omega
              have HR := Lib.hid hr
              clear htk hx hr hy hyl hxl e1
              go_wp2_with fail
              go_quiet (fail)
              have hb2 : Below w.heap.size w (wr.drewN nq) := below_drewN hb nq
              have hc2 : (wr.drewN nq).cell? ⟨b, o + k, none⟩ = some (.slice xa xn xc) := by simpa using hc
              go_wp2_with fail
              clear g1 g2 g3 hc hb hc0
              generalize wr.drewN nq = wq at *
              go_loop [6] (fun i => ∃ m : Nat, m ≤ xn ∧ i = .int .i64 m ∧ Hid (Upto (fun s => s.size ≤ 80) xs m)) (fun i => xn - (intOf i).toNat)
              case atStart => exact ⟨0, Nat.zero_le _, rfl, Lib.hid Upto.zero⟩
              case round =>
                obtain ⟨m, hm, rfl, HM⟩ := hrel
                by_cases hlm : m < xn
                · obtain ⟨s, hs, _⟩ := take_snoc' xs m (by rw [HXL.out]; exact hlm)
                  obtain ⟨b', o', hxa, _, hc'⟩ := ((show Rd eS 1 w xa xs from hok.out.2.2.2).below hb2).at1 hs rfl
                  subst hxa
                  have HSX := Lib.hid hs
                  clear hs
                  by_cases h80 : 80 < s.size
                  · have H2 := Lib.hid (HTC.out.symm.trans (tabC_2 HP.out (shapeT_bad (mem_xs HX.out) (okR_long (List.mem_of_getElem? HSX.out) h80))))
                    have k1 : decide ((80 : Int) < (s.size : Int)) = true := by simp; omega
                    have k2 : decide (80 < s.size) = true := by simp; omega
                    go_wp2_with fail
                    go_ret
                    exact ⟨by rw [H2.out]; rfl, hb2⟩
                  · have k1 : decide ((80 : Int) < (s.size : Int)) = false := by simp; omega
                    have k2 : decide (80 < s.size) = false := by simp; omega
                    go_wp2_with fail
                    go_round
                    case rel => exact ⟨m + 1, by omega, by go_num, Lib.hid (HM.out.step HSX.out (by omega))⟩
                    case measure => simp [intOf]; omega
                · go_wp2_with fail
                  go_roundw
                  case rel => exact ⟨k + 1, by omega, by go_num, Lib.hid (HK.out.step HX.out (okR_ok (by rw [HHD2.out, ← E1.out]; exact HXL.out) (by have := HXL.out; simp only; omega) (HM.out.all (by have := HXL.out; omega)))), hb2⟩
                  case measure => simp [intOf]; omega
          · have H2 := Lib.hid (HTC.out.symm.trans (tabC_2 HP.out (shapeT_bad (mem_xs HX.out) (okR_len (by rw [HHD2.out]; show xs.length ≠ yn; omega)))))
            have g1 : ((xn : Int) != (yn : Int)) = true := by rw [bne_iff_ne]; omega
            clear htk hx hr hy hyl hxl
            go_wp2_with fail
            go_quiet (fail)
            have hb2 : Below w.heap.size w (wr.drewN nq) := below_drewN hb nq
            go_wp2_with fail
            go_ret
            exact ⟨by rw [H2.out]; rfl, hb2⟩
        · by_cases h60 : 60 < n
          · have H2 := Lib.hid (HTC.out.symm.trans (tabC_2 HP.out (shapeT_long (by simp [HL.out]; omega))))
            have d1 : decide ((60 : Int) < (n : Int)) = true := by simp; omega
            have d2 : decide (60 < n) = true := by simp; omega
            go_wp2_with fail
            go_ret
            exact ⟨by rw [H2.out]; rfl, hb⟩
          · have d1 : decide ((60 : Int) < (n : Int)) = false := by simp; omega
            have d2 : decide (60 < n) = false := by simp; omega
            have H0 := Lib.hid (HTC.out.symm.trans (tabC_0 HP.out (shapeT_ok (by simp [HL.out]; omega) fun r hr => by
              obtain ⟨x, hx, rfl⟩ := List.mem_map.1 hr
              exact HK.out.all (by rw [HL.out]; omega) x hx)))
            go_wp2_with fail
            go_ret
            exact ⟨by rw [H0.out]; rfl, hb⟩
end Go.Proofs.YtkgkammobogcbaaDoor
