/-
  The program's structs in Lean, their cells; the arguments of the laws, opened.
-/
import Derived.Test.YtkgkammobogcbaaRows
import Derived.Test.YtkgkammobogcbaaBase
import Derived.ProofKit
namespace Go.Proofs.Ytkgkammobogcbaa
open Go.RowKit

def Byt (x : Int) : Prop := 0 ≤ x ∧ x < 256
def I64 (x : Int) : Prop := -9223372036854775808 ≤ x ∧ x ≤ 9223372036854775807
def StrOk (s : ByteArray) : Prop := s.size ≤ maxLen
theorem byt_wf {n : Int} (h : (Lit.int .u8 n).wf = true) : Byt n := by
  simp [Lit.wf, IntKind.min, IntKind.max, IntKind.signed, IntKind.bits] at h
  unfold Byt; omega
theorem i64_wf {n : Int} (h : (Lit.int .i64 n).wf = true) : I64 n := by
  simp [Lit.wf, IntKind.min, IntKind.max, IntKind.signed, IntKind.bits] at h
  unfold I64; omega
theorem open_bytes {H : Type} {enc : TypeId × Value → H} {W : World} {a : Option Addr} {len cap : Nat} {d : DataW H} {p : List MemPlace} (h : DataW.Trod enc Try.prog W 0 (fun _ => true) true 55 (.slice a len cap) d p) :
    ∃ xs, xs.length = len ∧ len ≤ maxLen ∧ (∀ v ∈ xs, Byt v) ∧ Rd eB 1 W a xs := by
  obtain ⟨fuel, hf⟩ := h
  exact open_rd (encf := eB) (k := 1) (fun _ => rfl) (by decide) Byt Try.underlying55 (by kernel_rfl) (fun n cs y hy => by
    obtain ⟨m, rfl, _, hm⟩ := DataW.trod_int Try.underlying5 hy
    exact ⟨m, rfl, byt_wf hm⟩) hf
theorem open_int64s {H : Type} {enc : TypeId × Value → H} {W : World} {a : Option Addr} {len cap : Nat} {d : DataW H} {p : List MemPlace} (h : DataW.Trod enc Try.prog W 0 (fun _ => true) true 27 (.slice a len cap) d p) :
    ∃ xs, xs.length = len ∧ len ≤ maxLen ∧ (∀ v ∈ xs, I64 v) ∧ Rd eI 1 W a xs := by
  obtain ⟨fuel, hf⟩ := h
  exact open_rd (encf := eI) (k := 1) (fun _ => rfl) (by decide) I64 Try.underlying27 (by kernel_rfl) (fun n cs y hy => by
    obtain ⟨m, rfl, _, hm⟩ := DataW.trod_int Try.underlying2 hy
    exact ⟨m, rfl, i64_wf hm⟩) hf
theorem open_stringsR {H : Type} {enc : TypeId × Value → H} {W : World} {a : Option Addr} {len cap : Nat} {d : DataW H} {p : List MemPlace} (h : DataW.Trod enc Try.prog W 0 (fun _ => true) true 37 (.slice a len cap) d p) :
    ∃ xs, xs.length = len ∧ len ≤ maxLen ∧ (∀ v ∈ xs, StrOk v) ∧ Rd eS 1 W a xs := by
  obtain ⟨fuel, hf⟩ := h
  exact open_rd (encf := eS) (k := 1) (fun _ => rfl) (by decide) StrOk Try.underlying37 (by kernel_rfl) (fun n cs y hy => by
    obtain ⟨m, rfl, _, hm⟩ := DataW.trod_string Try.underlying9 hy
    exact ⟨m, rfl, hm⟩) hf

structure Pt where
  time : Int
  mag : Int
def Pt.enc (v : Pt) : List Value := [.int .i64 v.time, .int .i64 v.mag]
theorem Pt.len (v : Pt) : v.enc.length = 2 := rfl
def Pt.zero : Pt := ⟨0, 0⟩
instance : Inhabited Pt := ⟨Pt.zero⟩
theorem Pt.one (v : Pt) : ∀ u ∈ v.enc, u.oneCell' = true := by
  intro u hu; simp [Pt.enc] at hu; rcases hu with rfl | rfl <;> rfl
def Pt.Ok (v : Pt) : Prop := I64 v.time ∧ I64 v.mag
theorem Try.info57 : (Try.prog.info? 57).map (fun i => (i.zero, i.size, i.bytes)) = some (some (.agg #[.int .i64 0, .int .i64 0]), 2, 16) := by kernel_rfl
set_option maxRecDepth 100000
theorem Pt.trod {H : Type} {enc : TypeId × Value → H} {W : World} {n : Nat} {cs : List Value} {y : DataW H × List MemPlace} (hy : DataW.trod enc Try.prog W 0 (fun _ => true) true n 60 cs = some y) : ∃ x : Pt, Pt.enc x = cs ∧ Pt.Ok x := by
  have hC : Try.prog.cellsOf 60 = 2 := by kernel_rfl
  have hC2 : Try.prog.cellsOf 2 = 1 := by kernel_rfl
  obtain ⟨xs, m, _, _, hl, hx, hf⟩ := DataW.trod_struct Try.underlying60 hy
  rw [hC] at hl
  have hxl : xs.length = 2 := hx
  match cs, hl with
  | [c0, c1], _ =>
    have hi0 : 0 < xs.length := by omega
    have g0 : DataW.trod enc Try.prog W 0 (fun _ => true) true m 2 [c0] = xs[0]? := by simpa [hC2] using hf 0 _ rfl
    rw [List.getElem?_eq_getElem hi0] at g0
    obtain ⟨q0, e0, _, w0⟩ := DataW.trod_int Try.underlying2 g0
    simp at e0
    subst e0
    have hi1 : 1 < xs.length := by omega
    have g1 : DataW.trod enc Try.prog W 0 (fun _ => true) true m 2 [c1] = xs[1]? := by simpa [hC2] using hf 1 _ rfl
    rw [List.getElem?_eq_getElem hi1] at g1
    obtain ⟨q1, e1, _, w1⟩ := DataW.trod_int Try.underlying2 g1
    simp at e1
    subst e1
    exact ⟨⟨q0, q1⟩, rfl, i64_wf w0, i64_wf w1⟩
theorem open_Pts {H : Type} {enc : TypeId × Value → H} {W : World} {a : Option Addr} {len cap : Nat} {d : DataW H} {p : List MemPlace} (h : DataW.Trod enc Try.prog W 0 (fun _ => true) true 35 (.slice a len cap) d p) :
    ∃ xs, xs.length = len ∧ len ≤ maxLen ∧ (∀ v ∈ xs, Pt.Ok v) ∧ Rd Pt.enc 2 W a xs := by
  obtain ⟨fuel, hf⟩ := h
  exact open_rd (encf := Pt.enc) (k := 2) (fun _ => rfl) (by decide) Pt.Ok Try.underlying35 (by kernel_rfl) (fun n cs y hy => Pt.trod hy) hf
theorem open_Pt {H : Type} {enc : TypeId × Value → H} {W : World} {v : Value} {d : DataW H} {p : List MemPlace} (hv : Value.okWide Try.prog W .any 0 60 v) (h : DataW.Trod enc Try.prog W 0 (fun _ => true) true 60 v d p) :
    ∃ x : Pt, v = .agg #[.int .i64 x.time, .int .i64 x.mag] ∧ Pt.Ok x := by
  obtain ⟨cs, rfl, hsz⟩ := Go.WideShapes.okWide_struct Try.underlying60 hv
  obtain ⟨fuel, hf⟩ := h
  obtain ⟨x, hx, hok⟩ := Pt.trod hf
  refine ⟨x, ?_, hok⟩
  simp only [Value.cells] at hx
  cases cs with | mk l => simp only at hx; subst hx; rfl

end Go.Proofs.Ytkgkammobogcbaa
