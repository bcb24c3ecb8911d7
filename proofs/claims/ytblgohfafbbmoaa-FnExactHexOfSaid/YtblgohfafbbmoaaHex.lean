/-
  The walks of the law FnExactHexOf.
-/
import Derived.Test.YtblgohfafbbmoaaBytes
import Derived.Deep.RegionLaw
namespace Go.Proofs.Ytblgohfafbbmoaa
open Go.RowKit

def hexD (d : Nat) : UInt8 := if h : d < 16 then (⟨#[48, 49, 50, 51, 52, 53, 54, 55, 56, 57, 97, 98, 99, 100, 101, 102]⟩ : ByteArray)[d]'h else 0
theorem hexD_eq (d : Nat) (h : d < 16) : (⟨#[48, 49, 50, 51, 52, 53, 54, 55, 56, 57, 97, 98, 99, 100, 101, 102]⟩ : ByteArray)[d]'h = hexD d := by rw [hexD, dif_pos h]
def hexL (xs : List Int) : List UInt8 := xs.flatMap fun x => [hexD (x.toNat / 16), hexD (x.toNat % 16)]
theorem hexL_snoc (xs : List Int) (d : Nat) : hexL (xs ++ [(d : Int)]) = hexL xs ++ [hexD (d / 16), hexD (d % 16)] := by simp [hexL]
theorem hexL_len (xs : List Int) : (hexL xs).length = 2 * xs.length := by
  induction xs with
  | nil => rfl
  | cons x xs ih => simp [hexL] at *; omega

set_option maxRecDepth 100000 in
set_option maxHeartbeats 400000 in
theorem specHex_any (a : Option Addr) (n cap : Nat) (xs : List Int) (w : World) (hn : n ≤ 8000) (hl : xs.length = n) (hr : Rd eB 1 w a xs) (hx : ∀ x ∈ xs, Byt x) :
    Calls Try.prog 18 #[.slice a n cap] w fun e w' => e = .returned (.tuple #[.string ⟨(hexL xs).toArray⟩, .int .i64 0]) ∧ Below w.heap.size w w' := by
  go_enter Try.func18, Try.ntmps18
  go_wp2_with fail
  go_loopw [4, 5] (fun v i wr => ∃ (k : Nat) (a' : Option Addr) (c' : Nat), k ≤ n ∧ i = .int .i64 k ∧ v = .slice a' (2 * k) c' ∧ Ow eU 1 wr w.heap.size 5 (.slice a' (2 * k) c') (2 * k) (hexL (xs.take k)) ∧ Below w.heap.size w wr) (fun _ i _ => n - (intOf i).toNat)
  case atStart => exact ⟨0, _, _, Nat.zero_le _, rfl, rfl, World.ownsRow_lit w #[] 0 (Nat.le_refl _) (Nat.zero_le _) rfl, (Below.refl _ _).alloc (Nat.le_refl _) _⟩
  case round =>
    obtain ⟨k, a', c', hk, rfl, rfl, hown, hb⟩ := hrel
    by_cases hlt : k < n
    · obtain ⟨x, hxk, ht⟩ := take_snoc' xs k (by omega)
      obtain ⟨b, o, rfl, hbl, hc0⟩ := hr.at1 hxk rfl
      have hc := (hb.cell (p := ⟨b, o + k, none⟩) hbl).trans hc0
      clear hc0
      obtain ⟨hx0, hx1⟩ := hx x (List.mem_of_getElem? hxk)
      obtain ⟨d, rfl⟩ := Int.eq_ofNat_of_zero_le hx0
      have hq0 : (0 : Int) ≤ (d : Int) / 16 := by omega
      have hq1 : (d : Int) / 16 < 16 := by omega
      have hm0 : (0 : Int) ≤ (d : Int) % 16 := by omega
      have hm1 : (d : Int) % 16 < 16 := by omega
      have hdq : d / 16 < 16 := by omega
      have hdm : d % 16 < 16 := by omega
      have hs := hexL_snoc (xs.take k) d
      rw [← ht] at hs
      obtain ⟨ys, hy⟩ : ∃ ys, hexL (xs.take k) ++ [(⟨#[48, 49, 50, 51, 52, 53, 54, 55, 56, 57, 97, 98, 99, 100, 101, 102]⟩ : ByteArray)[d / 16]'hdq] = ys := ⟨_, rfl⟩
      obtain ⟨zs, hz⟩ : ∃ zs, ys ++ [(⟨#[48, 49, 50, 51, 52, 53, 54, 55, 56, 57, 97, 98, 99, 100, 101, 102]⟩ : ByteArray)[d % 16]'hdm] = zs := ⟨_, rfl⟩
      have hsz : zs = hexL (xs.take (k + 1)) := by rw [hs, ← hz, ← hy, hexD_eq, hexD_eq]; simp
      have HY := Lib.hid hy; clear hy
      have HZ := Lib.hid hz; clear hz
      have HS := Lib.hid hsz; clear hsz
      clear ht hx hl hxk hr hs
      have hbs := hb.size
      go_wp2_with (at_builtin; refine wpl_appn eU_len (by decide) eU_one _ rfl (.tmp 16) (.tmp 23) 25 rfl 5 (.int .u8 0) 1 rfl Try.underlying25 Try.info5 w.heap.size _ (2 * k) _ rfl wr _ 5 rfl hown [(⟨#[48, 49, 50, 51, 52, 53, 54, 55, 56, 57, 97, 98, 99, 100, 101, 102]⟩ : ByteArray)[d / 16]'hdq] 1 rfl rfl rfl ?s1 ?s2 hbs ys HY ?_)
      case s1 => unfold maxLen; omega
      case s2 => omega
      intro a1 c1 w1 hown1 hb1 hlt1
      have hb2 := hb.trans hb1
      have hc1 := (hb1.cell (p := ⟨b, o + k, none⟩) hbl).trans hc
      have hbs1 := hb2.size
      clear hown hb hc hb1 hlt1 HY
      go_wp2_with (at_builtin; refine wpl_appn eU_len (by decide) eU_one _ rfl (.tmp 25) (.tmp 32) 25 rfl 5 (.int .u8 0) 1 rfl Try.underlying25 Try.info5 w.heap.size _ (2 * k + 1) _ rfl w1 _ 5 rfl hown1 [(⟨#[48, 49, 50, 51, 52, 53, 54, 55, 56, 57, 97, 98, 99, 100, 101, 102]⟩ : ByteArray)[d % 16]'hdm] 1 rfl rfl rfl ?t1 ?t2 hbs1 zs HZ ?_)
      case t1 => unfold maxLen; omega
      case t2 => omega
      intro a2 c2 w2 hown2 hb3 _
      have hb4 := hb2.trans hb3
      rw [HS.out] at hown2
      clear hown1 hb2 hc1 hb3 HZ
      go_wp2_with fail
      go_roundw
      case rel => exact ⟨k + 1, a2, c2, by omega, by go_num, rfl, hown2, hb4⟩
      case measure => simp [intOf]; omega
    · have hkn : k = n := by omega
      subst hkn
      rw [List.take_of_length_le (by omega)] at hown
      have hcv := conv_back (P := Try.prog) (src := 25) (dst := 9) (e := 5) (cap := c') (by rw [hexL_len, hl]) (hown.rd eU_len (by decide)) Try.underlying25 Try.underlying5 Try.underlying9
      clear hl hr hx
      go_wp2_with fail
      go_ret2
      exact ⟨rfl, hb⟩

set_option maxRecDepth 100000 in
set_option maxHeartbeats 400000 in
theorem implHex_any (a : Option Addr) (n cap : Nat) (xs : List Int) (w : World) (hn : n ≤ 8000) (hl : xs.length = n) (hr : Rd eB 1 w a xs) (hx : ∀ x ∈ xs, Byt x) :
    Calls Try.prog 19 #[.slice a n cap] w fun e w' => e = .returned (.tuple #[.string ⟨(hexL xs).toArray⟩, .int .i64 0]) ∧ Below w.heap.size w w' := by
  go_enter Try.func19, Try.ntmps19
  go_wp2_with fail
  go_loopw [4, 13] (fun v i wr => ∃ (k : Nat) (a' : Option Addr) (c' : Nat), k ≤ n ∧ i = .int .i64 k ∧ v = .slice a' (2 * k) c' ∧ Ow eU 1 wr w.heap.size 5 (.slice a' (2 * k) c') (2 * k) (hexL (xs.take k)) ∧ Below w.heap.size w wr) (fun _ i _ => n - (intOf i).toNat)
  case atStart => exact ⟨0, _, _, Nat.zero_le _, rfl, rfl, World.ownsRow_lit w #[] 0 (Nat.le_refl _) (Nat.zero_le _) rfl, (Below.refl _ _).alloc (Nat.le_refl _) _⟩
  case round =>
    obtain ⟨k, a', c', hk, rfl, rfl, hown, hb⟩ := hrel
    by_cases hlt : k < n
    · obtain ⟨x, hxk, ht⟩ := take_snoc' xs k (by omega)
      obtain ⟨b, o, rfl, hbl, hc0⟩ := hr.at1 hxk rfl
      have hc := (hb.cell (p := ⟨b, o + k, none⟩) hbl).trans hc0
      clear hc0
      obtain ⟨hx0, hx1⟩ := hx x (List.mem_of_getElem? hxk)
      obtain ⟨d, rfl⟩ := Int.eq_ofNat_of_zero_le hx0
      have hq0 : (0 : Int) ≤ (d : Int) / 16 := by omega
      have hq1 : (d : Int) / 16 < 16 := by omega
      have hm0 : (0 : Int) ≤ (d : Int) % 16 := by omega
      have hm1 : (d : Int) % 16 < 16 := by omega
      have hdq : d / 16 < 16 := by omega
      have hdm : d % 16 < 16 := by omega
      have hs := hexL_snoc (xs.take k) d
      rw [← ht] at hs
      obtain ⟨ys, hy⟩ : ∃ ys, hexL (xs.take k) ++ [(⟨#[48, 49, 50, 51, 52, 53, 54, 55, 56, 57, 97, 98, 99, 100, 101, 102]⟩ : ByteArray)[d / 16]'hdq, (⟨#[48, 49, 50, 51, 52, 53, 54, 55, 56, 57, 97, 98, 99, 100, 101, 102]⟩ : ByteArray)[d % 16]'hdm] = ys := ⟨_, rfl⟩
      have hsz : ys = hexL (xs.take (k + 1)) := by rw [hs, ← hy, hexD_eq, hexD_eq]
      have HY := Lib.hid hy; clear hy
      have HS := Lib.hid hsz; clear hsz
      clear ht hx hl hxk hr hs
      have hbs := hb.size
      go_wp2_with fail
      have hwq : IntKind.u8.wrap ((d : Int) / 16) = (d : Int) / 16 := by simp [IntKind.wrap, IntKind.signed, IntKind.bits]; omega
      have hwm : (d : Int).tmod 16 = (d : Int) % 16 := Int.tmod_eq_emod_of_nonneg hx0
      have hwm2 : IntKind.u8.wrap ((d : Int) % 16) = (d : Int) % 16 := by simp [IntKind.wrap, IntKind.signed, IntKind.bits]; omega
      have htq : ((d : Int) / 16).toNat = d / 16 := by omega
      have htm : ((d : Int) % 16).toNat = d % 16 := by omega
      have h63 : 2 * k + 2 ≤ maxLen := by unfold maxLen; omega
      have hbt : (2 * k + 2) * 1 ≤ 140737488355328 := by omega
      go_region_law (first | (refine step_appn eU_len (by decide) eU_one _ rfl (.tmp 17) (.tmp 24) 25 rfl 5 (.int .u8 0) 1 rfl Try.underlying25 Try.info5 w.heap.size (.slice a' (2 * k) c') (2 * k) (hexL (xs.take k)) (by simp [Act.eval]) wr.drew _ 5 rfl hown [(⟨#[48, 49, 50, 51, 52, 53, 54, 55, 56, 57, 97, 98, 99, 100, 101, 102]⟩ : ByteArray)[d / 16]'hdq, (⟨#[48, 49, 50, 51, 52, 53, 54, 55, 56, 57, 97, 98, 99, 100, 101, 102]⟩ : ByteArray)[d % 16]'hdm] 2 rfl (by simp [Act.eval]) rfl h63 hbt hbs ys HY ?_; intro a2 c2 w2 hown2 hb3 hlt3) | (go_simp; fail))
      all_goals
        have hb4 := hb.drew.trans hb3
        rw [HS.out] at hown2
        clear hown hb hc hb3 HY
        go_wp2_with fail
        go_roundw
        case rel => exact ⟨k + 1, a2, c2, by omega, by go_num, rfl, hown2, hb4⟩
        case measure => simp [intOf]; omega
    · have hkn : k = n := by omega
      subst hkn
      rw [List.take_of_length_le (by omega)] at hown
      have hcv := conv_back (P := Try.prog) (src := 25) (dst := 9) (e := 5) (cap := c') (by rw [hexL_len, hl]) (hown.rd eU_len (by decide)) Try.underlying25 Try.underlying5 Try.underlying9
      clear hl hr hx
      go_wp2_with fail
      go_ret2
      exact ⟨rfl, hb⟩
end Go.Proofs.Ytblgohfafbbmoaa
