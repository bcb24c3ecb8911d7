/-
  Numbers that are all within bounds; times that rise.
-/
import Derived.Test.YtdcldiadjdpaeaaFind
namespace Go.Proofs.Ytdcldiadjdpaeaa
open Go.RowKit
set_option maxRecDepth 100000

theorem quiet_sameT {P : Program} {f : FuncId} {args : Array Value} {w : World} {n : Nat} {v : Value}
    (h : Calls P f args (w.drewN n) fun e w' => e = .returned v ∧ w.drewN n = w') : Calls P f args (w.drewN n) fun e w'' => e = .returned v ∧ ∃ m, w'' = w.drewN m :=
  h.mono fun _ _ ⟨he, hm⟩ => ⟨he, n, hm.symm⟩
def incP (ts : List Int) (i : Nat) : Bool := match i with
  | 0 => true
  | j + 1 => match ts[j + 1]?, ts[j]? with | some x, some y => decide (y < x) | _, _ => true
theorem incP_k {ts : List Int} {k : Nat} {x y : Int} (hk : k ≠ 0) (hx : ts[k]? = some x) (hy : ts[k - 1]? = some y) : incP ts k = decide (y < x) := by
  obtain ⟨j, rfl⟩ : ∃ j, k = j + 1 := ⟨k - 1, by omega⟩
  rw [show j + 1 - 1 = j by omega] at hy
  simp [incP, hx, hy]
def risesB (ts : List Int) (lo hi : Int) : Bool := ts.all (fun x => inB x lo hi) && allB ts.length (incP ts)
theorem risesB_out {ts : List Int} {lo hi x : Int} {k : Nat} (hx : ts[k]? = some x) (h : inB x lo hi = false) : risesB ts lo hi = false := by
  rw [risesB, all_bad (f := fun x => inB x lo hi) hx h, Bool.false_and]
theorem risesB_low {ts : List Int} {lo hi : Int} {k : Nat} (hk : k < ts.length) (h : incP ts k = false) : risesB ts lo hi = false := by
  rw [risesB, allB_false hk h, Bool.and_false]
theorem risesB_ok {ts : List Int} {lo hi : Int} (h : ∀ i, i < ts.length → atP ts (fun x => inB x lo hi) i = true) (h2 : ∀ i, i < ts.length → incP ts i = true) : risesB ts lo hi = true := by
  rw [risesB, all_good h, allB_true h2]; rfl
def timesB (ts : List Int) (m : Nat) : Bool := decide (ts.length ≤ m) && risesB ts 0 10000000

theorem allIn1_any (x lo hi : Int) (bl bh : Nat) (w : World) (cl : w.cell? ⟨bl, 0, none⟩ = some (.int .i64 lo)) (ch : w.cell? ⟨bh, 0, none⟩ = some (.int .i64 hi)) :
    Calls Try.prog 53 #[.int .i64 x, .pointer (some ⟨bl, 0, none⟩), .pointer (some ⟨bh, 0, none⟩)] w fun e w' => e = .returned (.bool (!inB x lo hi)) ∧ Below w.heap.size w w' := by
  go_enter Try.func53, Try.ntmps53
  go_wp2_with fail
  refine (in_any x lo hi _).mono ?_
  rintro e w1 ⟨rfl, rfl⟩
  go_wp2_with fail
  go_ret
  exact ⟨rfl, Below.refl _ _⟩
theorem allIn_any (ts : List Int) (lo hi : Int) (a : Option Addr) (n c : Nat) (w : World) (hn : n ≤ 1048576) (hl : ts.length = n) (hr : Rd eI 1 w a ts) :
    Calls Try.prog 38 #[.slice a n c, .int .i64 lo, .int .i64 hi] w fun e w' => e = .returned (.bool (ts.all fun x => inB x lo hi)) ∧ Below w.heap.size w w' := by
  have HL := Lib.hid hl
  have HV := Lib.hid (any_not_all ts fun x => inB x lo hi)
  clear hl
  obtain ⟨cl, ch, hb0, hs0⟩ := box2 w (.int .i64 lo) (.int .i64 hi) 2 2
  have hr0 := hr.below hb0
  have HC := Lib.hid cl
  have HH := Lib.hid ch
  have HB := Lib.hid hb0
  have HS := Lib.hid hs0
  clear cl ch hb0 hs0 hr
  go_enter Try.func38, Try.ntmps38
  go_wp2_with fail
  refine (ContainsInt_any ts (fun x => !inB x lo hi) _ _ a n c _ hn HL.out hr0 ?c1 ?c2).mono ?_
  case c1 => intro args wx; kernel_rfl
  case c2 =>
    intro i x w' hx hb'
    exact allIn1_any x lo hi _ _ w' ((hb'.cell (p := ⟨w.heap.size, 0, none⟩) (by show w.heap.size < _; rw [HS.out]; omega)).trans HC.out) ((hb'.cell (p := ⟨w.heap.size + 1, 0, none⟩) (by show w.heap.size + 1 < _; rw [HS.out]; omega)).trans HH.out)
  rintro e w1 ⟨rfl, hb⟩
  go_wp2_with fail
  go_ret
  exact ⟨by rw [← HV.out]; rfl, HB.out.trans (hb.mono (by rw [HS.out]; omega))⟩
end Go.Proofs.Ytdcldiadjdpaeaa
