/-
  The program's structs in Lean, their cells; the arguments of the laws, opened.
-/
import Derived.Test.YtcggnjpbahobcaaGreatDoorRows
import Derived.Test.YtcggnjpbahobcaaGreatDoorBase
import Derived.ProofKit
namespace Go.Proofs.YtcggnjpbahobcaaGreatDoor
open Go.RowKit

def Byt (x : Int) : Prop := 0 ≤ x ∧ x < 256
def I64 (x : Int) : Prop := -9223372036854775808 ≤ x ∧ x ≤ 9223372036854775807
def StrOk (s : ByteArray) : Prop := s.size ≤ maxLen
theorem byt_wf {n : Int} (h : (Lit.int .u8 n).wf = true) : Byt n := by
  simp [Lit.wf, IntKind.min, IntKind.max, IntKind.signed, IntKind.bits] at h
  unfold Byt; omega
theorem i64_wf {n : Int} (h : (Lit.int .i64 n).wf = true) : I64 n := by
  simp [Lit.wf, IntKind.min, IntKind.max, IntKind.signed, IntKind.bits] at h
  unfold I64; omega
theorem open_bytes {H : Type} {enc : TypeId × Value → H} {W : World} {a : Option Addr} {len cap : Nat} {d : DataW H} {p : List MemPlace} (h : DataW.Trod enc Tryz.prog W 0 (fun _ => true) true 62 (.slice a len cap) d p) :
    ∃ xs, xs.length = len ∧ len ≤ maxLen ∧ (∀ v ∈ xs, Byt v) ∧ Rd eB 1 W a xs := by
  obtain ⟨fuel, hf⟩ := h
  exact open_rd (encf := eB) (k := 1) (fun _ => rfl) (by decide) Byt Tryz.underlying62 (by kernel_rfl) (fun n cs y hy => by
    obtain ⟨m, rfl, _, hm⟩ := DataW.trod_int Tryz.underlying5 hy
    exact ⟨m, rfl, byt_wf hm⟩) hf
theorem open_int64s {H : Type} {enc : TypeId × Value → H} {W : World} {a : Option Addr} {len cap : Nat} {d : DataW H} {p : List MemPlace} (h : DataW.Trod enc Tryz.prog W 0 (fun _ => true) true 52 (.slice a len cap) d p) :
    ∃ xs, xs.length = len ∧ len ≤ maxLen ∧ (∀ v ∈ xs, I64 v) ∧ Rd eI 1 W a xs := by
  obtain ⟨fuel, hf⟩ := h
  exact open_rd (encf := eI) (k := 1) (fun _ => rfl) (by decide) I64 Tryz.underlying52 (by kernel_rfl) (fun n cs y hy => by
    obtain ⟨m, rfl, _, hm⟩ := DataW.trod_int Tryz.underlying2 hy
    exact ⟨m, rfl, i64_wf hm⟩) hf
theorem open_stringsR {H : Type} {enc : TypeId × Value → H} {W : World} {a : Option Addr} {len cap : Nat} {d : DataW H} {p : List MemPlace} (h : DataW.Trod enc Tryz.prog W 0 (fun _ => true) true 38 (.slice a len cap) d p) :
    ∃ xs, xs.length = len ∧ len ≤ maxLen ∧ (∀ v ∈ xs, StrOk v) ∧ Rd eS 1 W a xs := by
  obtain ⟨fuel, hf⟩ := h
  exact open_rd (encf := eS) (k := 1) (fun _ => rfl) (by decide) StrOk Tryz.underlying38 (by kernel_rfl) (fun n cs y hy => by
    obtain ⟨m, rfl, _, hm⟩ := DataW.trod_string Tryz.underlying9 hy
    exact ⟨m, rfl, hm⟩) hf

structure Est where
  time : Int
  star : ByteArray
  obs : ByteArray
  mag : Int
  fnt : Bool
def Est.enc (v : Est) : List Value := [.int .i64 v.time, .string v.star, .string v.obs, .int .i64 v.mag, .bool v.fnt]
theorem Est.len (v : Est) : v.enc.length = 5 := rfl
def Est.zero : Est := ⟨0, ByteArray.empty, ByteArray.empty, 0, false⟩
instance : Inhabited Est := ⟨Est.zero⟩
theorem Est.one (v : Est) : ∀ u ∈ v.enc, u.oneCell' = true := by
  intro u hu; simp [Est.enc] at hu; rcases hu with rfl | rfl | rfl | rfl | rfl <;> rfl
def Est.Ok (v : Est) : Prop := I64 v.time ∧ v.star.size ≤ maxLen ∧ v.obs.size ≤ maxLen ∧ I64 v.mag
theorem Tryz.info42 : (Tryz.prog.info? 42).map (fun i => (i.zero, i.size, i.bytes)) = some (some (.agg #[.int .i64 0, .string ByteArray.empty, .string ByteArray.empty, .int .i64 0, .bool false]), 5, 56) := by kernel_rfl
set_option maxRecDepth 100000
theorem Est.trod {H : Type} {enc : TypeId × Value → H} {W : World} {n : Nat} {cs : List Value} {y : DataW H × List MemPlace} (hy : DataW.trod enc Tryz.prog W 0 (fun _ => true) true n 36 cs = some y) : ∃ x : Est, Est.enc x = cs ∧ Est.Ok x := by
  have hC : Tryz.prog.cellsOf 36 = 5 := by kernel_rfl
  have hC2 : Tryz.prog.cellsOf 2 = 1 := by kernel_rfl
  have hC4 : Tryz.prog.cellsOf 4 = 1 := by kernel_rfl
  have hC9 : Tryz.prog.cellsOf 9 = 1 := by kernel_rfl
  obtain ⟨xs, m, _, _, hl, hx, hf⟩ := DataW.trod_struct Tryz.underlying36 hy
  rw [hC] at hl
  have hxl : xs.length = 5 := hx
  match cs, hl with
  | [c0, c1, c2, c3, c4], _ =>
    have hi0 : 0 < xs.length := by omega
    have g0 : DataW.trod enc Tryz.prog W 0 (fun _ => true) true m 2 [c0] = xs[0]? := by simpa [hC2] using hf 0 _ rfl
    rw [List.getElem?_eq_getElem hi0] at g0
    obtain ⟨q0, e0, _, w0⟩ := DataW.trod_int Tryz.underlying2 g0
    simp at e0
    subst e0
    have hi1 : 1 < xs.length := by omega
    have g1 : DataW.trod enc Tryz.prog W 0 (fun _ => true) true m 9 [c1] = xs[1]? := by simpa [hC9] using hf 1 _ rfl
    rw [List.getElem?_eq_getElem hi1] at g1
    obtain ⟨q1, e1, _, w1⟩ := DataW.trod_string Tryz.underlying9 g1
    simp at e1
    subst e1
    have hi2 : 2 < xs.length := by omega
    have g2 : DataW.trod enc Tryz.prog W 0 (fun _ => true) true m 9 [c2] = xs[2]? := by simpa [hC9] using hf 2 _ rfl
    rw [List.getElem?_eq_getElem hi2] at g2
    obtain ⟨q2, e2, _, w2⟩ := DataW.trod_string Tryz.underlying9 g2
    simp at e2
    subst e2
    have hi3 : 3 < xs.length := by omega
    have g3 : DataW.trod enc Tryz.prog W 0 (fun _ => true) true m 2 [c3] = xs[3]? := by simpa [hC2] using hf 3 _ rfl
    rw [List.getElem?_eq_getElem hi3] at g3
    obtain ⟨q3, e3, _, w3⟩ := DataW.trod_int Tryz.underlying2 g3
    simp at e3
    subst e3
    have hi4 : 4 < xs.length := by omega
    have g4 : DataW.trod enc Tryz.prog W 0 (fun _ => true) true m 4 [c4] = xs[4]? := by simpa [hC4] using hf 4 _ rfl
    rw [List.getElem?_eq_getElem hi4] at g4
    obtain ⟨q4, e4, _⟩ := DataW.trod_bool Tryz.underlying4 g4
    simp at e4
    subst e4
    exact ⟨⟨q0, q1, q2, q3, q4⟩, rfl, i64_wf w0, w1, w2, i64_wf w3⟩
theorem open_Ests {H : Type} {enc : TypeId × Value → H} {W : World} {a : Option Addr} {len cap : Nat} {d : DataW H} {p : List MemPlace} (h : DataW.Trod enc Tryz.prog W 0 (fun _ => true) true 22 (.slice a len cap) d p) :
    ∃ xs, xs.length = len ∧ len ≤ maxLen ∧ (∀ v ∈ xs, Est.Ok v) ∧ Rd Est.enc 5 W a xs := by
  obtain ⟨fuel, hf⟩ := h
  exact open_rd (encf := Est.enc) (k := 5) (fun _ => rfl) (by decide) Est.Ok Tryz.underlying22 (by kernel_rfl) (fun n cs y hy => Est.trod hy) hf
theorem open_Est {H : Type} {enc : TypeId × Value → H} {W : World} {v : Value} {d : DataW H} {p : List MemPlace} (hv : Value.okWide Tryz.prog W .any 0 36 v) (h : DataW.Trod enc Tryz.prog W 0 (fun _ => true) true 36 v d p) :
    ∃ x : Est, v = .agg #[.int .i64 x.time, .string x.star, .string x.obs, .int .i64 x.mag, .bool x.fnt] ∧ Est.Ok x := by
  obtain ⟨cs, rfl, hsz⟩ := Go.WideShapes.okWide_struct Tryz.underlying36 hv
  obtain ⟨fuel, hf⟩ := h
  obtain ⟨x, hx, hok⟩ := Est.trod hf
  refine ⟨x, ?_, hok⟩
  simp only [Value.cells] at hx
  cases cs with | mk l => simp only at hx; subst hx; rfl

end Go.Proofs.YtcggnjpbahobcaaGreatDoor
