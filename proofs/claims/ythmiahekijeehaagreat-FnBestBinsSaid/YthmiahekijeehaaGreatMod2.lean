/-
  The model that is drawn.
-/
import Derived.Test.YthmiahekijeehaaGreatEph
import Derived.Test.YthmiahekijeehaaGreatSrc
import Derived.Laws.ResultCell
namespace Go.Proofs.YthmiahekijeehaaGreat
open Go.RowKit
set_option maxRecDepth 100000

theorem infoI64c : (Tryz.prog.info? 2).map (fun i => (i.zero, i.size, i.bytes)) = some (some (.int .i64 0), 1, 8) := by kernel_rfl
def timesL (x p : Int) (k : Nat) : List Int := (List.range k).map fun (i : Nat) => x + (i : Int) * p
theorem timesL_step (x p : Int) (k : Nat) : timesL x p k ++ [x + (k : Int) * p] = timesL x p (k + 1) := by simp [timesL, List.range_succ]
theorem timesL_at {x p : Int} {k i : Nat} (h : i < k) : (timesL x p k)[i]? = some (x + (i : Int) * p) := by simp [timesL, h]
open Go.RowKit
set_option maxRecDepth 100000

theorem SrcAt.lt {w0 w : World} {b : Nat} {a : Option Addr} {n c p : Nat} {z : Int} (h : SrcAt w0 w b a n c p z) : b < w.heap.size := lt_of_block h.blk
theorem SrcAt.alloc {w0 w : World} {b : Nat} {a : Option Addr} {n c p : Nat} {z : Int} (h : SrcAt w0 w b a n c p z) (o : Obj) : SrcAt w0 (w.alloc o) b a n c p z :=
  ⟨h.base, h.ok.alloc h.ok.size o, (Below.heap_alloc _ _ _ h.lt).trans h.blk, h.z0, h.z1⟩
theorem SrcAt.set {w0 w : World} {b : Nat} {a : Option Addr} {n c p : Nat} {z : Int} (h : SrcAt w0 w b a n c p z) {g : Nat} (hg : w0.heap.size ≤ g) (hne : b ≠ g) (j : Nat) (u : Value) : SrcAt w0 (w.setCell ⟨g, j, none⟩ u) b a n c p z :=
  ⟨h.base, h.ok.setCell (p := ⟨g, j, none⟩) hg u, (Below.heap_setCell _ _ _ _ hne).trans h.blk, h.z0, h.z1⟩
theorem results_cell1 {fn : Func} {p : Tmp} {ty : TypeId} (h : fn.results = #[.cell p ty]) (tmps : Array Value) (P : Program) (w : World) :
    (results fn tmps).run P w = ((asAddr (tmps.getD p undef)).run P w).andThen fun a w₁ => (loadVar ty a).run P w₁ := by
  simp only [results, h]
  simp [Sem.run_bind, Result.andThen]
theorem ownEph {w : World} {g : Nat} {x y : Int} (h : w.heap[g]? = some (.cells #[.int .i64 x, .int .i64 y] 93 (0, 0))) : Ow Eph.enc 2 w g 93 (.slice (some ⟨g, 0, none⟩) 1 1) 1 [⟨x, y⟩] :=
  ⟨by simp [Eph.enc], .inr ⟨g, 1, _, rfl, Nat.le_refl _, h, Nat.le_refl _, by simp [maxLen], by simp, by simp [Eph.enc]⟩⟩
theorem Eph.cells1 {w : World} {base e b : Nat} {v : Eph} (h : Ow Eph.enc 2 w base e (.slice (some ⟨b, 0, none⟩) 1 1) 1 [v]) : w.cell? ⟨b, 0, none⟩ = some (.int .i64 v.epoch) ∧ w.cell? ⟨b, 1, none⟩ = some (.int .i64 v.per) := by
  obtain ⟨b', o', he, _, hc⟩ := (h.rd Eph.len (by decide)) 0 v rfl
  simp only [Option.some.injEq, Addr.mk.injEq, and_true] at he
  obtain ⟨rfl, rfl⟩ := he
  exact ⟨hc 0 _ rfl, hc 1 _ rfl⟩

open Go.RowKit
set_option maxRecDepth 100000

theorem times_in {x t p : Int} {cnt : Nat} (hp : 1 ≤ p) (hc : (t - x) / p + 1 = cnt) : (∀ k : Nat, k < cnt → x + (k : Int) * p ≤ t) ∧ t < x + (cnt : Int) * p := by
  have h1 := Int.mul_ediv_add_emod (t - x) p
  have h2 := Int.emod_nonneg (t - x) (show p ≠ 0 by omega)
  have h3 := Int.emod_lt_of_pos (t - x) (show 0 < p by omega)
  generalize (t - x) / p = q at *
  generalize (t - x) % p = r at *
  rw [Int.mul_comm] at h1
  refine ⟨fun k hk => ?_, ?_⟩
  · have := Int.mul_le_mul_of_nonneg_right (show (k : Int) ≤ q by omega) (show 0 ≤ p by omega)
    omega
  · rw [← hc, Int.add_mul, Int.one_mul]
    omega
def slcLen (v : Value) : Nat := match v with
  | .slice _ n _ => n
  | _ => 0
open Go.RowKit
set_option maxRecDepth 100000

def nearI (x d : Int) : Int := if d - x % d ≤ x % d then x / d + 1 else x / d
theorem nearI_spec (x d : Int) (hd : 1 ≤ d) : 2 * (nearI x d * d) ≤ 2 * x + d ∧ 2 * x + d < 2 * (nearI x d * d) + 2 * d := by
  have h1 := Int.mul_ediv_add_emod x d
  have h2 := Int.emod_nonneg x (show d ≠ 0 by omega)
  have h3 := Int.emod_lt_of_pos x (show 0 < d by omega)
  unfold nearI
  generalize x / d = q at *
  generalize x % d = r at *
  rw [Int.mul_comm] at h1
  split
  · rw [Int.add_mul, Int.one_mul]; omega
  · omega
theorem nearI_mono {x y d : Int} (hd : 1 ≤ d) (h : x ≤ y) : nearI x d ≤ nearI y d := by
  have h1 := nearI_spec x d hd
  have h2 := nearI_spec y d hd
  rcases Int.lt_or_le (nearI y d) (nearI x d) with hlt | hle
  · exfalso
    have := Int.mul_le_mul_of_nonneg_right (show nearI y d + 1 ≤ nearI x d by omega) (show 0 ≤ d by omega)
    rw [Int.add_mul, Int.one_mul] at this
    omega
  · exact hle
theorem nearI_nonneg {x d : Int} (hd : 1 ≤ d) (h : 0 ≤ x) : 0 ≤ nearI x d := by
  have h1 := nearI_spec x d hd
  rcases Int.lt_or_le (nearI x d) 0 with hlt | hle
  · exfalso
    have := Int.mul_le_mul_of_nonneg_right (show nearI x d ≤ -1 by omega) (show 0 ≤ d by omega)
    rw [Int.neg_mul, Int.one_mul] at this
    omega
  · exact hle
theorem nearI_le {x d D : Int} (hd : 1 ≤ d) (h : x ≤ D * d) : nearI x d ≤ D := by
  have h1 := nearI_spec x d hd
  rcases Int.lt_or_le D (nearI x d) with hlt | hle
  · exfalso
    have := Int.mul_le_mul_of_nonneg_right (show D + 1 ≤ nearI x d by omega) (show 0 ≤ d by omega)
    rw [Int.add_mul, Int.one_mul] at this
    omega
  · exact hle
theorem prod_le {a b D : Int} (hD : 0 ≤ D) (h : a ≤ b) : D * a ≤ D * b := Int.mul_le_mul_of_nonneg_left h hD
def absI (x : Int) : Int := if x < 0 then -x else x
theorem abs_any (x : Int) (w : World) (h0 : -1000000000 ≤ x) (h1 : x ≤ 1000000000) : Calls Tryz.prog 30 #[.int .i64 x] w fun e w' => e = .returned (.int .i64 (absI x)) ∧ w = w' := by
  by_cases hx : x < 0
  · rw [show absI x = -x from if_pos hx]
    go_enter Tryz.func30, Tryz.ntmps30
    go_wp2_with fail
    go_ret
    exact ⟨rfl, rfl⟩
  · rw [show absI x = x from if_neg hx]
    go_enter Tryz.func30, Tryz.ntmps30
    go_wp2_with fail
    go_ret
    exact ⟨rfl, rfl⟩
open Go.RowKit
set_option maxRecDepth 100000

end Go.Proofs.YthmiahekijeehaaGreat
