/-
  The ephemeris out of bytes; numbers out of bytes; all times within some time.
-/
import Derived.Test.YtjilihpibmoeoaaDoorCyc2
namespace Go.Proofs.YtjilihpibmoeoaaDoor
open Go.RowKit
set_option maxRecDepth 100000

theorem a2Long_any (a a' : Option Addr) (n n' c c' : Nat) (w : World) (hn : n ≤ 3000) (hn' : n' ≤ 3000) : Calls Tryd.prog 5 #[.slice a n c, .slice a' n' c'] w fun e w' => e = .returned (.bool false) ∧ w = w' := by
  have d0 : decide ((3000 : Int) < (n : Int)) = false := by simp; omega
  have d1 : decide ((3000 : Int) < (n' : Int)) = false := by simp; omega
  have d2 : decide (3000 < n) = false := by simp; omega
  have d3 : decide (3000 < n') = false := by simp; omega
  go_enter Tryd.func5, Tryd.ntmps5
  go_wp2_with fail
  go_ret
  exact ⟨rfl, rfl⟩
theorem a2Long_yes (a a' : Option Addr) (n n' c c' : Nat) (w : World) (hn : ¬ (n ≤ 3000 ∧ n' ≤ 3000)) (hm : n ≤ maxLen) (hm' : n' ≤ maxLen) : Calls Tryd.prog 5 #[.slice a n c, .slice a' n' c'] w fun e w' => e = .returned (.bool true) ∧ w = w' := by
  unfold maxLen at hm hm'
  by_cases h1 : n ≤ 3000
  · have h2 : ¬ n' ≤ 3000 := fun h => hn ⟨h1, h⟩
    have d0 : decide ((3000 : Int) < (n : Int)) = false := by simp; omega
    have d1 : decide ((3000 : Int) < (n' : Int)) = true := by simp; omega
    have d2 : decide (3000 < n) = false := by simp; omega
    have d3 : decide (3000 < n') = true := by simp; omega
    clear hn h1 h2
    go_enter Tryd.func5, Tryd.ntmps5
    go_wp2_with fail
    go_ret
    exact ⟨rfl, rfl⟩
  · have d0 : decide ((3000 : Int) < (n : Int)) = true := by simp; omega
    have d2 : decide (3000 < n) = true := by simp; omega
    clear hn h1
    go_enter Tryd.func5, Tryd.ntmps5
    go_wp2_with fail
    go_ret
    exact ⟨rfl, rfl⟩
set_option maxHeartbeats 1000000 in
theorem a2At_any (p : Nat) (m : Int) (a : Option Addr) (n c : Nat) (xs : List Int) (w : World) (hm : 1 ≤ m) (hm2 : m ≤ 100000) (hl : xs.length = n) (ho : ∀ x ∈ xs, Byt x) (hr : Rd eB 1 w a xs) :
    Calls Tryd.prog 7 #[.slice a n c, .int .i64 p, .int .i64 m] w fun e w' => ∃ v, e = .returned (.int .i64 v) ∧ 0 ≤ v ∧ v < m ∧ w = w' := by
  by_cases hlt : p < n
  · obtain ⟨x, hx, _⟩ := take_snoc' xs p (by omega)
    obtain ⟨hx0, hx1⟩ := ho x (List.mem_of_getElem? hx)
    obtain ⟨bb, o, rfl, hbl, hc⟩ := hr p x hx
    have cx := hc 0 _ rfl
    rw [Nat.add_zero, Nat.mul_one] at cx
    have d0 : decide (n ≤ p) = false := by simp; omega
    have d1 : decide ((n : Int) ≤ (p : Int)) = false := by simp; omega
    have d2 : decide (m < 1) = false := by simp; omega
    have k1 : 0 ≤ x % m := Int.emod_nonneg _ (by omega)
    have k2 : x % m < m := Int.emod_lt_of_pos _ (by omega)
    have hm0 : m ≠ 0 := by omega
    have hm1 : (m == 0) = false := by rw [beq_eq_false_iff_ne]; exact hm0
    clear hc hx hr ho hl
    go_enter Tryd.func7, Tryd.ntmps7
    go_wp2_with fail
    go_ret
    exact ⟨x % m, rfl, k1, k2, rfl⟩
  · have d0 : decide (n ≤ p) = true := by simp; omega
    have d1 : decide ((n : Int) ≤ (p : Int)) = true := by simp; omega
    clear hr ho hl
    go_enter Tryd.func7, Tryd.ntmps7
    go_wp2_with fail
    go_ret
    exact ⟨0, rfl, by omega, by omega, rfl⟩
set_option maxHeartbeats 2000000 in
theorem A2Eph_any (a : Option Addr) (n c : Nat) (xs : List Int) (w : World) (hl : xs.length = n) (ho : ∀ x ∈ xs, Byt x) (hr : Rd eB 1 w a xs) :
    Calls Tryd.prog 6 #[.slice a n c] w fun e w' => ∃ v, e = .returned (.agg #[.int .i64 v.epoch, .int .i64 v.per]) ∧ EphOk v ∧ Below w.heap.size w w' := by
  have HL := Lib.hid hl
  have HO := Lib.hid ho
  have hba : Below w.heap.size w (w.alloc (.cells #[.int .i64 0, .int .i64 0] 25)) := (Below.refl _ _).alloc (Nat.le_refl _) _
  have HR := Lib.hid (hr.below hba)
  have HRB := Lib.hid (heap_alloc_new w (.cells #[.int .i64 0, .int .i64 0] 25))
  have hsz : w.heap.size < (w.alloc (.cells #[.int .i64 0, .int .i64 0] 25)).heap.size := by simp
  have HBA := Lib.hid hba
  clear hl ho hr hba
  go_enter Tryd.func6, Tryd.ntmps6
  go_upto_region 1 with (fail)
  generalize w.alloc (.cells #[.int .i64 0, .int .i64 0] 25) = wA at *
  go_wp2_with fail
  refine (srcFrom a n c _).mono ?_
  rintro e w1 ⟨rfl, hs1, hlt1⟩
  have HS1 := Lib.hid hs1
  clear hs1
  go_wp2_with fail
  refine (ephDraw wA _ _ a n c 0 0 xs (by omega) HL.out HO.out HR.out HS1.out).mono ?_
  rintro e w2 ⟨v, rfl, hv, hb2⟩
  have hR2 := (hb2.block _ hsz).trans HRB.out
  have hown := ownEph hR2
  have hrs : w.heap.size ≤ w2.heap.size := Nat.le_of_lt (lt_of_block hR2)
  have HV := Lib.hid hv
  have HB2 := Lib.hid (HBA.out.trans (hb2.mono (Nat.le_of_lt hsz)))
  have HY : Hid (([⟨0, 0⟩] : List Eph).set 0 v = [v]) := Lib.hid rfl
  clear hv hb2 hR2
  go_wp2_with (with_reducible refine wpl_set Eph.len (by decide) _ rfl 25 (.tmp 2) (.tmp 5) rfl w.heap.size 0 rfl _ rfl v rfl ?s1 (Eph.one _) w.heap.size 25 1 1 0 [⟨0, 0⟩] hown (by decide) rfl w.heap.size (Nat.le_refl _) hrs [v] HY ?_)
  case s1 => kernel_rfl
  intro w3 hown3 hb3 _
  obtain ⟨x0, x1⟩ := Eph.cells1 hown3
  have HB3 := Lib.hid (HB2.out.trans hb3)
  clear hown3 hb3
  go_wp2_with fail
  refine bodyPost_ret (v := .agg #[.int .i64 v.epoch, .int .i64 v.per]) ((results_cell1 rfl _ _ _).trans ?r1) rfl ?_
  case r1 => go_simp
  exact ⟨v, rfl, HV.out, HB3.out⟩

theorem times_in {x t p : Int} {cnt : Nat} (hp : 1 ≤ p) (hc : (t - x) / p + 1 = cnt) : (∀ k : Nat, k < cnt → x + (k : Int) * p ≤ t) ∧ t < x + (cnt : Int) * p := by
  have h1 := Int.mul_ediv_add_emod (t - x) p
  have h2 := Int.emod_nonneg (t - x) (show p ≠ 0 by omega)
  have h3 := Int.emod_lt_of_pos (t - x) (show 0 < p by omega)
  generalize (t - x) / p = q at *
  generalize (t - x) % p = r at *
  rw [Int.mul_comm] at h1
  refine ⟨fun k hk => ?_, ?_⟩
  · have := Int.mul_le_mul_of_nonneg_right (show (k : Int) ≤ q by omega) (show 0 ≤ p by omega)
    omega
  · rw [← hc, Int.add_mul, Int.one_mul]
    omega
def slcLen (v : Value) : Nat := match v with
  | .slice _ n _ => n
  | _ => 0
set_option maxHeartbeats 4000000 in
theorem TimesIn_any (v : Eph) (s t : Int) (cnt : Nat) (w : World) (h : EphOk v) (h0 : 0 ≤ s) (h1 : s ≤ t) (h2 : t ≤ 9000000) (hx : nextT v s ≤ t) (hc : (t - nextT v s) / v.per + 1 = cnt) (h200 : cnt ≤ 200) :
    Calls Tryd.prog 11 #[.agg #[.int .i64 v.epoch, .int .i64 v.per], .int .i64 s, .int .i64 t] w fun e w' => ∃ a' c', e = .returned (.tuple #[.slice a' cnt c', .int .i64 0]) ∧ Ow eI 1 w' w.heap.size 2 (.slice a' cnt c') cnt (timesL (nextT v s) v.per cnt) ∧ Below w.heap.size w w' := by
  have HK := Lib.hid h
  have H1 : Hid (inB s 0 10000000 = true) := Lib.hid (inB_true h0 (by omega))
  have H2 : Hid (inB t 0 10000000 = true) := Lib.hid (inB_true (by omega) (by omega))
  have hbd := nextT_bounds v s h
  have p3 := h.2.2.1
  have p4 := h.2.2.2
  have HN : Hid (∀ w1, Calls Tryd.prog 27 #[.agg #[.int .i64 v.epoch, .int .i64 v.per], .int .i64 s] w1 fun e w' => e = .returned (.int .i64 (nextT v s)) ∧ Below w1.heap.size w1 w') := Lib.hid fun w1 => ephNext v s w1 HK.out h0 (by omega)
  have HX : Hid (∀ w1, Calls Tryd.prog 28 #[.agg #[.int .i64 v.epoch, .int .i64 v.per], .int .i64 s, .int .i64 t] w1 fun e w' => e = .returned (.int .i64 ((t - nextT v s) / v.per + 1)) ∧ Below w1.heap.size w1 w') := Lib.hid fun w1 => extrema_any v s t w1 HK.out h0 h1 (by omega) hx
  generalize nextT v s = x at *
  rw [hc] at HX
  obtain ⟨ht1, ht2⟩ := times_in p3 hc
  have HT1 := Lib.hid ht1
  obtain ⟨d0, d1, hb, hlt⟩ := ephNew w v 25
  have HC : Hid (∀ w', Below (w.alloc (.cells #[.int .i64 v.epoch, .int .i64 v.per] 25)).heap.size (w.alloc (.cells #[.int .i64 v.epoch, .int .i64 v.per] 25)) w' → w'.cell? ⟨w.heap.size, 0, none⟩ = some (.int .i64 v.epoch) ∧ w'.cell? ⟨w.heap.size, 1, none⟩ = some (.int .i64 v.per)) := Lib.hid fun w' hb' => ⟨(hb'.cell (p := ⟨w.heap.size, 0, none⟩) hlt).trans d0, (hb'.cell (p := ⟨w.heap.size, 1, none⟩) hlt).trans d1⟩
  have HB := Lib.hid hb
  have hle := hb.size
  have d200 : decide ((200 : Int) < (cnt : Int)) = false := by simp; omega
  have d201 : decide (200 < cnt) = false := by simp; omega
  clear d0 d1 hb hlt hc h ht1
  go_enter Tryd.func11, Tryd.ntmps11
  go_upto_region 1 with (fail)
  generalize w.alloc (.cells #[.int .i64 v.epoch, .int .i64 v.per] 25) = w0 at *
  obtain ⟨x0, x1⟩ := HC.out _ (Below.refl _ _)
  go_wp2_with fail
  refine (ValidEph_any v _ HK.out).mono ?_
  rintro e w1 ⟨rfl, hb1⟩
  have HB1 := Lib.hid hb1
  clear x0 x1 hb1
  go_wp2_with fail
  refine (ValidTime_lit _ _ _ H1.out).mono ?_
  rintro e w2 ⟨rfl, rfl⟩
  go_wp2_with fail
  refine (ValidTime_lit _ _ _ H2.out).mono ?_
  rintro e w2 ⟨rfl, rfl⟩
  obtain ⟨x0, x1⟩ := HC.out _ HB1.out
  go_wp2_with fail
  refine (HX.out _).mono ?_
  rintro e w2 ⟨rfl, hb2⟩
  have HB2 := Lib.hid (HB1.out.trans (hb2.mono HB1.out.size))
  clear x0 x1 hb2
  have hbb := below_built w2 2
  have hbo := Ow.built eI 1 w2 2
  obtain ⟨x0, x1⟩ := HC.out _ (HB2.out.trans (hbb.mono HB2.out.size))
  have HBB := Lib.hid hbb
  have HBO := Lib.hid hbo
  clear hbb hbo
  go_wp2_with fail
  refine (HN.out _).mono ?_
  rintro e w3 ⟨rfl, hb3⟩
  have ho3 := (HBO.out.below hb3).mono HB2.out.size
  have hb4 := HB2.out.trans ((HBB.out.trans (hb3.mono HBB.out.size)).mono HB2.out.size)
  clear x0 x1 hb3
  go_wp2_with fail
  go_loopw [8, 9] (fun o i wr => ∃ k : Nat, ∃ a2 c2, k ≤ cnt ∧ i = .int .i64 (x + (k : Int) * v.per) ∧ o = .slice a2 k c2 ∧ Ow eI 1 wr w0.heap.size 2 (.slice a2 k c2) k (timesL x v.per k) ∧ Below w0.heap.size w0 wr) (fun o _ _ => cnt - slcLen o)
  case atStart => exact ⟨0, _, _, Nat.zero_le _, by simp, rfl, ho3, hb4⟩
  case round =>
    obtain ⟨k, a2, c2, hk, rfl, rfl, hoI, hb6⟩ := hrel
    clear ho3 hb4
    by_cases hlt : k < cnt
    · have hle2 := HT1.out k hlt
      have hst : x + (k : Int) * v.per + v.per = x + ((k + 1 : Nat) : Int) * v.per := by rw [Int.natCast_add, Int.add_mul]; simp; omega
      have HY : Hid (timesL x v.per k ++ [x + (k : Int) * v.per] = timesL x v.per (k + 1)) := Lib.hid (timesL_step _ _ _)
      have HST := Lib.hid hst
      obtain ⟨y, hy⟩ : ∃ y, x + (k : Int) * v.per = y := ⟨_, rfl⟩
      rw [hy] at hle2 HY HST ⊢
      have hyx : x ≤ y := by have := Int.mul_nonneg (show (0 : Int) ≤ (k : Int) by omega) (show 0 ≤ v.per by omega); omega
      clear hy hst
      have i1 : IntKind.i64.wrap (y + v.per) = y + v.per := IntWalk.i64_in _ (by omega)
      have dd : decide (y ≤ t) = true := by simpa using hle2
      have h63 : k + 1 ≤ maxLen := by unfold maxLen; omega
      have hby : (k + 1) * 8 ≤ 140737488355328 := by omega
      go_wp2_with (at_builtin; refine wpl_app eI_len (by decide) _ rfl (.tmp 40) (.tmp 42) 30 rfl 2 (.int .i64 0) 8 rfl Tryd.underlying30 infoI64c w0.heap.size _ k _ rfl wr _ 2 rfl hoI y rfl rfl (eI_one _) h63 hby hb6.size _ HY ?_)
      intro a4 c4 w6 hoI6 hb8 _
      have hb9 := hb6.trans hb8
      clear hoI hb6 hb8 dd
      obtain ⟨x0, x1⟩ := HC.out _ hb9
      go_wp2_with fail
      go_roundw
      case rel => exact ⟨k + 1, a4, c4, by omega, by rw [HST.out], by simp, hoI6, hb9⟩
      case measure => simp [slcLen]; omega
    · obtain rfl : k = cnt := by omega
      obtain ⟨y, hy⟩ : ∃ y, x + (k : Int) * v.per = y := ⟨_, rfl⟩
      rw [hy] at ht2 ⊢
      have dd : decide (y ≤ t) = false := by simp; omega
      clear hy
      go_wp2_with fail
      go_ret2
      exact ⟨_, _, rfl, hoI.mono hle, HB.out.trans (hb6.mono hle)⟩
end Go.Proofs.YtjilihpibmoeoaaDoor
