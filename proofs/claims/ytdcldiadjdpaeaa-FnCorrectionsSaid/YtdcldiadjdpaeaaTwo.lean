/-
  Two rows of numbers of a function's own, side by side, written by single stores.
-/
import Derived.Test.YtdcldiadjdpaeaaBo
import Derived.Test.YtdcldiadjdpaeaaAppL
import Derived.Deep.Cut
import Derived.BigQuiet
import Derived.BigRegion
namespace Go.Proofs.Ytdcldiadjdpaeaa
open Go.RowKit
set_option maxRecDepth 100000
set_option linter.unusedVariables false
theorem flatI_set2 : ∀ (L : List Int) (i : Nat) (x : Int), (L.flatMap eI).set i (.int .i64 x) = (L.set i x).flatMap eI
  | [], i, x => by simp
  | y :: L, 0, x => by simp [eI]
  | y :: L, i + 1, x => by
    have := flatI_set2 L i x
    simp only [List.flatMap_cons, eI, List.singleton_append, List.set_cons_succ]
    rw [this]
theorem Ow.setI2 {w : World} {base e g n cap : Nat} {xs : List Int} (h : Ow eI 1 w base e (.slice (some ⟨g, 0, none⟩) n cap) n xs) (i : Nat) (x : Int) : Ow eI 1 (w.setCell ⟨g, i, none⟩ (.int .i64 x)) base e (.slice (some ⟨g, 0, none⟩) n cap) n (xs.set i x) := by
  have := (World.ownsRow.stored h i (.int .i64 x)).1
  rw [flatI_set2] at this
  exact this
theorem Ow.setO2 {w : World} {base e g h' n cap : Nat} {xs : List Int} (h : Ow eI 1 w base e (.slice (some ⟨h', 0, none⟩) n cap) n xs) (hne : h' ≠ g) (i : Nat) (u : Value) : Ow eI 1 (w.setCell ⟨g, i, none⟩ u) base e (.slice (some ⟨h', 0, none⟩) n cap) n xs :=
  h.same fun b hb => by
    have : h' = b := by simpa [Value.ownBlock] using hb
    subst this
    exact Below.heap_setCell _ _ _ _ hne
theorem Ow.cellI2 {w : World} {base e g n cap i : Nat} {xs : List Int} {x : Int} (ho : Ow eI 1 w base e (.slice (some ⟨g, 0, none⟩) n cap) n xs) (hx : xs[i]? = some x) : w.cell? ⟨g, i, none⟩ = some (.int .i64 x) := by
  have hi : i < n := by have := ho.len eI_len (by decide); have := (List.getElem?_eq_some_iff.1 hx).1; omega
  have hr := ho.rd eI_len (by decide)
  obtain ⟨b, o, he, hc⟩ := hr.at1 hx (u := .int .i64 x) rfl
  cases he
  have h9 := hc
  rw [Nat.zero_add] at h9
  exact h9.2
/-- two rows of n numbers each, in blocks g and h, that are younger than a world -/
structure TwoR (B : Nat) (w0 w : World) (g h n cf cn : Nat) (F N : List Int) : Prop where
  f : Ow eI 1 w B 2 (.slice (some ⟨g, 0, none⟩) n cf) n F
  s : Ow eI 1 w B 2 (.slice (some ⟨h, 0, none⟩) n cn) n N
  ne : g ≠ h
  gB : B ≤ g
  hB : B ≤ h
  b : Below B w0 w
section
variable {B : Nat} {w0 w : World} {g h n cf cn : Nat} {F N : List Int}
theorem TwoR.setF (t : TwoR B w0 w g h n cf cn F N) (i : Nat) (x : Int) : TwoR B w0 (w.setCell ⟨g, i, none⟩ (.int .i64 x)) g h n cf cn (F.set i x) N :=
  ⟨t.f.setI2 i x, t.s.setO2 (fun e => t.ne e.symm) i _, t.ne, t.gB, t.hB, t.b.setCell (p := ⟨g, i, none⟩) t.gB _⟩
theorem TwoR.setN (t : TwoR B w0 w g h n cf cn F N) (i : Nat) (x : Int) : TwoR B w0 (w.setCell ⟨h, i, none⟩ (.int .i64 x)) g h n cf cn F (N.set i x) :=
  ⟨t.f.setO2 t.ne i _, t.s.setI2 i x, t.ne, t.gB, t.hB, t.b.setCell (p := ⟨h, i, none⟩) t.hB _⟩
end
theorem TwoR.cF {B : Nat} {w0 w : World} {g h n cf cn i : Nat} {F N : List Int} {x : Int} (t : TwoR B w0 w g h n cf cn F N) (hx : F[i]? = some x) : w.cell? ⟨g, i, none⟩ = some (.int .i64 x) := t.f.cellI2 hx
theorem TwoR.cN {B : Nat} {w0 w : World} {g h n cf cn i : Nat} {F N : List Int} {x : Int} (t : TwoR B w0 w g h n cf cn F N) (hx : N[i]? = some x) : w.cell? ⟨h, i, none⟩ = some (.int .i64 x) := t.s.cellI2 hx
theorem TwoR.zF {B : Nat} {w0 w : World} {g h n cf cn : Nat} {F N : List Int} (t : TwoR B w0 w g h n cf cn F N) (i : Nat) : w.frozen? ⟨g, i, none⟩ = false := World.ownsRow.frozenAt t.f i
theorem TwoR.zN {B : Nat} {w0 w : World} {g h n cf cn : Nat} {F N : List Int} (t : TwoR B w0 w g h n cf cn F N) (i : Nat) : w.frozen? ⟨h, i, none⟩ = false := World.ownsRow.frozenAt t.s i
theorem TwoR.lf {B : Nat} {w0 w : World} {g h n cf cn : Nat} {F N : List Int} (t : TwoR B w0 w g h n cf cn F N) : F.length = n := t.f.len eI_len (by decide)
theorem TwoR.ln {B : Nat} {w0 w : World} {g h n cf cn : Nat} {F N : List Int} (t : TwoR B w0 w g h n cf cn F N) : N.length = n := t.s.len eI_len (by decide)
theorem TwoR.below {B : Nat} {w0 w w' : World} {g h n cf cn : Nat} {F N : List Int} (t : TwoR B w0 w g h n cf cn F N) (hb : Below w.heap.size w w') (hs : B ≤ w.heap.size) : TwoR B w0 w' g h n cf cn F N :=
  ⟨t.f.below hb, t.s.below hb, t.ne, t.gB, t.hB, t.b.trans (hb.mono hs)⟩
theorem makeRow (n : Nat) (hn : n ≤ 1000000) : ∃ CS : Array Value, (∀ w : World, (Instr.makeSlice 27 (.int .i64 (n : Int)) (.int .i64 (n : Int))).run Try.prog w = .ok (.slice (some ⟨w.heap.size, 0, none⟩) n n) (w.alloc (.cells CS 2))) ∧
    ∀ w : World, Ow eI 1 (w.alloc (.cells CS 2)) w.heap.size 2 (.slice (some ⟨w.heap.size, 0, none⟩) n n) n (List.replicate n 0) := by
  have hinfo : (Try.prog.info? 2).map (fun i => (i.zero, i.size, i.bytes)) = some (some (.int .i64 0), 1, 8) := by kernel_rfl
  obtain ⟨i0, hi, hz0, hz1, hz2⟩ := info_parts hinfo
  have hrun := fun w : World => run_make (P := Try.prog) w 27 2 i0 (.int .i64 0) Try.underlying27 hi hz0 .i64 .i64 (n : Int) (n : Int) (by omega) (Int.le_refl _) (by rw [hz2]; omega) (by omega)
  refine ⟨madeCells (Value.int .i64 0).cells ((n : Int).toNat * i0.size), fun w => hrun w, fun w => ?_⟩
  obtain ⟨w', hrun', hown, _⟩ := run_make_full (P := Try.prog) (w := w) w.heap.size 27 2 i0 (.int .i64 0) 1 Try.underlying27 hi hz0 hz1 .i64 .i64 n (by rw [hz2]; omega) (by unfold maxLen; omega) (Nat.le_refl _)
  have e := (hrun w).symm.trans hrun'
  injection e with _ e2
  rw [e2]
  rw [show (Value.int .i64 0).cells = (eI 0).toArray from rfl, madeCells_flat eI_len (by decide)] at hown
  exact hown
theorem Ow.alloc2 {w : World} {base e n : Nat} {v : Value} {xs : List Int} (h : Ow eI 1 w base e v n xs) (o : Obj) : Ow eI 1 (w.alloc o) base e v n xs := h.below ((Below.refl _ _).alloc (Nat.le_refl _) _)
/-- two rows that are made one behind the other -/
theorem TwoR.made {w : World} {CS : Array Value} {n : Nat} (hr : ∀ w : World, Ow eI 1 (w.alloc (.cells CS 2)) w.heap.size 2 (.slice (some ⟨w.heap.size, 0, none⟩) n n) n (List.replicate n 0)) :
    TwoR w.heap.size w ((w.alloc (.cells CS 2)).alloc (.cells CS 2)).drew w.heap.size (w.heap.size + 1) n n n (List.replicate n 0) (List.replicate n 0) ∧ TwoR w.heap.size w ((w.alloc (.cells CS 2)).alloc (.cells CS 2)).drew (w.heap.size + 1) w.heap.size n n n (List.replicate n 0) (List.replicate n 0) := by
  have h1 := (hr w).alloc2 (.cells CS 2)
  have h2 := hr (w.alloc (.cells CS 2))
  have e : (w.alloc (.cells CS 2)).heap.size = w.heap.size + 1 := by simp
  rw [e] at h2
  have h2' := h2.mono (base' := w.heap.size) (by omega)
  have hb := (((Below.refl w.heap.size w).alloc (Nat.le_refl _) (.cells CS 2)).alloc (by simp) (.cells CS 2)).drew
  exact ⟨⟨h1.below (Below.refl _ _).drew, h2'.below (Below.refl _ _).drew, by omega, by omega, by omega, hb⟩, ⟨h2'.below (Below.refl _ _).drew, h1.below (Below.refl _ _).drew, by omega, by omega, by omega, hb⟩⟩
end Go.Proofs.Ytdcldiadjdpaeaa
