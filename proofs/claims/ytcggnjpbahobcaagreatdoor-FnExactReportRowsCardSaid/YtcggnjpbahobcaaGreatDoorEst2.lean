/-
  The order of two estimates, as the program compares them.
-/
import Derived.Test.YtcggnjpbahobcaaGreatDoorEst1
import Derived.Lib.Bytealg
import Derived.Laws.Externs
namespace Go.Proofs.YtcggnjpbahobcaaGreatDoor
open Go.RowKit
set_option maxRecDepth 100000

def cmpI (a b : Int) : Int := if a < b then -1 else if b < a then 1 else 0
theorem isNaN_any (a : Int) (w : World) : Calls Tryz.prog 69 #[.int .i64 a] w fun e w' => e = .returned (.bool false) ∧ w = w' := by
  go_enter Tryz.func69, Tryz.ntmps69
  go_wp2
  go_ret
  exact ⟨by simp, rfl⟩
theorem CompareI_any (a b : Int) (w : World) : Calls Tryz.prog 62 #[.int .i64 a, .int .i64 b] w fun e w' => e = .returned (.int .i64 (cmpI a b)) ∧ w = w' := by
  by_cases h1 : a < b
  · have hv : cmpI a b = -1 := by simp [cmpI, h1]
    rw [hv]
    clear hv
    go_enter Tryz.func62, Tryz.ntmps62
    go_wp2_with fail
    refine (isNaN_any _ _).mono ?_
    rintro e w' ⟨rfl, rfl⟩
    go_wp2_with fail
    refine (isNaN_any _ _).mono ?_
    rintro e w' ⟨rfl, rfl⟩
    go_wp2_with fail
    go_ret
    exact ⟨rfl, rfl⟩
  · by_cases h2 : b < a
    · have hv : cmpI a b = 1 := by simp [cmpI, h1, h2]
      rw [hv]
      clear hv
      go_enter Tryz.func62, Tryz.ntmps62
      go_wp2_with fail
      refine (isNaN_any _ _).mono ?_
      rintro e w' ⟨rfl, rfl⟩
      go_wp2_with fail
      refine (isNaN_any _ _).mono ?_
      rintro e w' ⟨rfl, rfl⟩
      go_wp2_with fail
      go_ret
      exact ⟨rfl, rfl⟩
    · have hv : cmpI a b = 0 := by simp [cmpI, h1, h2]
      rw [hv]
      clear hv
      go_enter Tryz.func62, Tryz.ntmps62
      go_wp2_with fail
      refine (isNaN_any _ _).mono ?_
      rintro e w' ⟨rfl, rfl⟩
      go_wp2_with fail
      refine (isNaN_any _ _).mono ?_
      rintro e w' ⟨rfl, rfl⟩
      go_wp2_with fail
      go_ret
      exact ⟨rfl, rfl⟩
theorem CompareString_any (a b : ByteArray) (w : World) : Calls Tryz.prog 70 #[.string a, .string b] w fun e w' => e = .returned (.int .i64 (Lib.compareBytes a.toList b.toList)) ∧ w = w' := by
  have hx : ∀ wx, (callFunc 87 #[.string a, .string b]).run Tryz.prog wx = .ok (.value (.int .i64 (Lib.compareBytes a.toList b.toList))) wx := by
    intro wx
    rw [run_callFunc_extern (fn := Tryz.f87) (by kernel_rfl) (by kernel_rfl) (by kernel_rfl) (by kernel_rfl) (e := Extern.BytealgCompare.compare) (by kernel_rfl), Lib.run_compareString]
    simp only [Result.andThen, ByteArray.toList_eq]
  go_enter Tryz.func70, Tryz.ntmps70
  go_wp2
  go_ret
  exact ⟨rfl, rfl⟩
theorem stringsCompare_any (a b : ByteArray) (w : World) : Calls Tryz.prog 63 #[.string a, .string b] w fun e w' => e = .returned (.int .i64 (Lib.compareBytes a.toList b.toList)) ∧ w = w' := by
  go_enter Tryz.func63, Tryz.ntmps63
  go_wp2_with fail
  refine (CompareString_any a b _).mono ?_
  rintro e w' ⟨rfl, rfl⟩
  go_wp2_with fail
  go_ret
  exact ⟨rfl, rfl⟩
def orI : List Int → Int
  | [] => 0
  | x :: xs => if x ≠ 0 then x else orI xs
theorem orI_drop {xs : List Int} {k : Nat} {x : Int} (h : xs[k]? = some x) : orI (xs.drop k) = if x ≠ 0 then x else orI (xs.drop (k + 1)) := by
  obtain ⟨hk, rfl⟩ := List.getElem?_eq_some_iff.1 h
  rw [List.drop_eq_getElem_cons hk, orI]
set_option maxHeartbeats 1000000 in
theorem cmpOr_any (xs : List Int) (a : Option Addr) (n c : Nat) (w : World) (hn : n ≤ 1048576) (hl : xs.length = n) (hr : Rd eI 1 w a xs) : Calls Tryz.prog 61 #[.slice a n c] w fun e w' => e = .returned (.int .i64 (orI xs)) ∧ w = w' := by
  have HL := Lib.hid hl
  clear hl
  go_enter Tryz.func61, Tryz.ntmps61
  go_wp2_with fail
  go_loopw [8] (fun i wr => ∃ k : Nat, k ≤ n ∧ i = .int .i64 k ∧ Hid (orI xs = orI (xs.drop k)) ∧ w = wr) (fun i _ => n - (intOf i).toNat)
  case atStart => exact ⟨0, Nat.zero_le _, rfl, Lib.hid (by rw [List.drop_zero]), rfl⟩
  case round =>
    obtain ⟨k, hk, rfl, HK, rfl⟩ := hrel
    by_cases hlt : k < n
    · obtain ⟨x, hx, _⟩ := take_snoc' xs k (by rw [HL.out]; omega)
      obtain ⟨b, o, rfl, hbl, hc⟩ := hr.at1 hx rfl
      have hd := orI_drop hx
      by_cases h0 : x = 0
      · have HQ : Hid (orI xs = orI (xs.drop (k + 1))) := Lib.hid (by rw [HK.out, hd, if_neg (by simpa using h0)])
        subst h0
        clear hd hx HK hr
        go_wp2_with fail
        go_roundw
        case rel => exact ⟨k + 1, by omega, by go_num, HQ, trivial⟩
        case measure => simp [intOf]; omega
      · have HQ : Hid (orI xs = x) := Lib.hid (by rw [HK.out, hd, if_pos h0])
        have d1 : (x != 0) = true := by rw [bne_iff_ne]; exact h0
        clear hd hx HK hr h0
        go_wp2_with fail
        go_ret
        exact ⟨by rw [HQ.out]; rfl, rfl⟩
    · obtain rfl : k = n := by omega
      have HQ : Hid (orI xs = 0) := Lib.hid (by rw [HK.out, List.drop_eq_nil_of_le (by rw [HL.out]; omega)]; rfl)
      go_wp2_with fail
      go_ret
      exact ⟨by rw [HQ.out]; rfl, rfl⟩
theorem cb_less : ∀ (a b : List UInt8), (Lib.compareBytes a b < 0 ↔ Op.bytesLess a b = true) ∧ (Lib.compareBytes a b = 0 ↔ a = b)
  | [], [] => by simp [Lib.compareBytes, Op.bytesLess]
  | [], _ :: _ => by simp [Lib.compareBytes, Op.bytesLess]
  | _ :: _, [] => by simp [Lib.compareBytes, Op.bytesLess]
  | a :: l, b :: m => by
    have ih := cb_less l m
    simp only [Lib.compareBytes, Op.bytesLess]
    by_cases h1 : a < b
    · have hne : a ≠ b := by intro h; subst h; exact absurd h1 (by simp)
      simp [h1, hne]
    · by_cases h2 : b < a
      · have hne : a ≠ b := by intro h; subst h; exact absurd h2 (by simp)
        simp [h1, h2, hne]
      · have he : a = b := by
          have h1' := UInt8.not_lt.1 h1
          have h2' := UInt8.not_lt.1 h2
          exact UInt8.le_antisymm h2' h1'
        subst he
        simp [ih]
def cE (x y : Est) : Int := orI [cmpI x.time y.time, Lib.compareBytes x.star.toList y.star.toList, Lib.compareBytes x.obs.toList y.obs.toList]
theorem cE_bef (x y : Est) : decide (0 ≤ cE x y) = !(befE x y) := by
  have hs := cb_less x.star.toList y.star.toList
  have ho := cb_less x.obs.toList y.obs.toList
  unfold cE befE
  simp only [orI]
  generalize Lib.compareBytes x.star.toList y.star.toList = s at *
  generalize Lib.compareBytes x.obs.toList y.obs.toList = o at *
  by_cases ht : x.time = y.time
  · have h1 : cmpI x.time y.time = 0 := by simp [cmpI, ht]
    rw [h1]
    simp only [ht, beq_self_eq_true, if_true, ne_eq, not_true, if_false]
    by_cases h2 : s = 0
    · have h3 := hs.2.1 h2
      simp only [h2, h3, beq_self_eq_true, if_true, not_true, if_false]
      by_cases h4 : o = 0
      · have : ¬ o < 0 := by omega
        have h5 := mt ho.1.2 this
        simp [h4, h5]
      · simp only [h4, not_false_eq_true, if_true]
        cases hb : Op.bytesLess x.obs.toList y.obs.toList with
        | true => have := ho.1.2 hb; simp; omega
        | false => have : ¬ o < 0 := fun h => by rw [ho.1.1 h] at hb; cases hb
                   simp; omega
    · have h3 : (x.star.toList == y.star.toList) = false := by rw [beq_eq_false_iff_ne]; exact mt hs.2.2 h2
      simp only [h2, h3, not_false_eq_true, if_true, Bool.false_eq_true, if_false]
      cases hb : Op.bytesLess x.star.toList y.star.toList with
      | true => have := hs.1.2 hb; simp; omega
      | false => have : ¬ s < 0 := fun h => by rw [hs.1.1 h] at hb; cases hb
                 simp; omega
  · have h3 : (x.time == y.time) = false := by rw [beq_eq_false_iff_ne]; exact ht
    simp only [h3, Bool.false_eq_true, if_false]
    by_cases h4 : x.time < y.time
    · have h1 : cmpI x.time y.time = -1 := by simp [cmpI, h4]
      rw [h1]; simp [h4]
    · have h1 : cmpI x.time y.time = 1 := by simp only [cmpI]; rw [if_neg h4, if_pos (by omega)]
      rw [h1]; simp [h4]

theorem still_of {P : Program} {f : FuncId} {args : Array Value} {w : World} {v : Value} (h : Calls P f args w fun e w' => e = .returned v ∧ w = w') : Calls P f args w fun e w'' => e = .returned v ∧ w'' = w :=
  h.mono fun _ _ ⟨h1, h2⟩ => ⟨h1, h2.symm⟩
theorem rd_new3 (w : World) (a b c : Int) (t : TypeId) : Rd eI 1 (w.alloc (.cells #[.int .i64 a, .int .i64 b, .int .i64 c] t)) (some ⟨w.heap.size, 0, none⟩) [a, b, c] := by
  have h := fun j => cell_of_row (w.alloc (.cells #[.int .i64 a, .int .i64 b, .int .i64 c] t)) w.heap.size j _ t (0, 0) (heap_alloc_new w _)
  intro i x hx
  refine ⟨w.heap.size, 0, rfl, by simp, fun j u hu => ?_⟩
  match i, hx with
  | 0, hx => simp at hx; subst hx; match j, hu with
    | 0, hu => simp [eI] at hu; subst hu; exact (h 0).trans rfl
    | j + 1, hu => simp [eI] at hu
  | 1, hx => simp at hx; subst hx; match j, hu with
    | 0, hu => simp [eI] at hu; subst hu; exact (h 1).trans rfl
    | j + 1, hu => simp [eI] at hu
  | 2, hx => simp at hx; subst hx; match j, hu with
    | 0, hu => simp [eI] at hu; subst hu; exact (h 2).trans rfl
    | j + 1, hu => simp [eI] at hu
  | i + 3, hx => simp at hx
set_option maxHeartbeats 2000000 in
theorem compareEst_any (x y : Est) (w : World) : Calls Tryz.prog 46 #[.agg #[.int .i64 x.time, .string x.star, .string x.obs, .int .i64 x.mag, .bool x.fnt], .agg #[.int .i64 y.time, .string y.star, .string y.obs, .int .i64 y.mag, .bool y.fnt]] w fun e w' => e = .returned (.int .i64 (cE x y)) ∧ Below w.heap.size w w' := by
  obtain ⟨c0, c1, c2, c3, c4, hb⟩ := estNew w x
  obtain ⟨e0, e1, e2, e3, e4, hb'⟩ := estNew (w.alloc (.cells #[.int .i64 x.time, .string x.star, .string x.obs, .int .i64 x.mag, .bool x.fnt] 42)) y
  have hlt : w.heap.size < (w.alloc (.cells #[.int .i64 x.time, .string x.star, .string x.obs, .int .i64 x.mag, .bool x.fnt] 42)).heap.size := by simp
  have d0 := (hb'.cell (p := ⟨w.heap.size, 0, none⟩) hlt).trans c0
  have d1 := (hb'.cell (p := ⟨w.heap.size, 1, none⟩) hlt).trans c1
  have d2 := (hb'.cell (p := ⟨w.heap.size, 2, none⟩) hlt).trans c2
  have hsz : (w.alloc (.cells #[.int .i64 x.time, .string x.star, .string x.obs, .int .i64 x.mag, .bool x.fnt] 42)).heap.size = w.heap.size + 1 := by simp
  rw [hsz] at e0 e1 e2
  have HB := Lib.hid (hb.trans (hb'.mono (by omega)))
  clear c0 c1 c2 c3 c4 e3 e4 hb hb' hsz
  go_enter Tryz.func46, Tryz.ntmps46
  go_wp2_with fail
  obtain ⟨w0, hw0⟩ : ∃ w0, (w.alloc (.cells #[.int .i64 x.time, .string x.star, .string x.obs, .int .i64 x.mag, .bool x.fnt] 42)).alloc (.cells #[.int .i64 y.time, .string y.star, .string y.obs, .int .i64 y.mag, .bool y.fnt] 42) = w0 := ⟨_, rfl⟩
  rw [hw0] at HB d0 d1 d2 e0 e1 e2 ⊢
  clear hw0 hlt
  go_still_tail 15, (by kernel_rfl)
  still_call (still_of (CompareI_any _ _ _))
  repeat still_step
  still_call (still_of (stringsCompare_any _ _ _))
  repeat still_step
  still_call (still_of (stringsCompare_any _ _ _))
  repeat still_step
  refine wpStill_nil ?_
  change wpList _ _ _ _ _ w0.drew
  have HBd : Hid (Below w.heap.size w w0.drew) := Lib.hid HB.out.drew
  generalize w0.drew = w1 at *
  generalize h1 : cmpI x.time y.time = z1 at *
  generalize h2 : Lib.compareBytes x.star.toList y.star.toList = z2 at *
  generalize h3 : Lib.compareBytes x.obs.toList y.obs.toList = z3 at *
  have hv : Hid (cE x y = orI [z1, z2, z3]) := Lib.hid (by rw [cE, h1, h2, h3])
  clear h1 h2 h3 d0 d1 d2 e0 e1 e2 HB
  have hrd := rd_new3 w1 z1 z2 z3 3
  have hb3 : Below w1.heap.size w1 (w1.alloc (.cells #[.int .i64 z1, .int .i64 z2, .int .i64 z3] 3)) := (Below.refl _ _).alloc (Nat.le_refl _) _
  have HR := Lib.hid hrd
  have H3 := Lib.hid (HBd.out.trans (hb3.mono HBd.out.size))
  clear hrd hb3
  go_wp2_with fail
  refine (cmpOr_any [z1, z2, z3] _ 3 _ _ (by omega) rfl HR.out).mono ?_
  rintro e w' ⟨rfl, rfl⟩
  go_wp2_with fail
  go_ret
  exact ⟨by rw [hv.out]; rfl, H3.out⟩
end Go.Proofs.YtcggnjpbahobcaaGreatDoor
