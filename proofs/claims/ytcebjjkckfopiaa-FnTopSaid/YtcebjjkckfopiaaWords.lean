/-
  The program's structs in Lean, their cells; the arguments of the laws, opened.
-/
import Derived.Test.YtcebjjkckfopiaaRows
import Derived.Test.YtcebjjkckfopiaaBase
import Derived.ProofKit
namespace Go.Proofs.Ytcebjjkckfopiaa
open Go.RowKit

def Byt (x : Int) : Prop := 0 ≤ x ∧ x < 256
def I64 (x : Int) : Prop := -9223372036854775808 ≤ x ∧ x ≤ 9223372036854775807
def StrOk (s : ByteArray) : Prop := s.size ≤ maxLen
theorem byt_wf {n : Int} (h : (Lit.int .u8 n).wf = true) : Byt n := by
  simp [Lit.wf, IntKind.min, IntKind.max, IntKind.signed, IntKind.bits] at h
  unfold Byt; omega
theorem i64_wf {n : Int} (h : (Lit.int .i64 n).wf = true) : I64 n := by
  simp [Lit.wf, IntKind.min, IntKind.max, IntKind.signed, IntKind.bits] at h
  unfold I64; omega
theorem open_bytes {H : Type} {enc : TypeId × Value → H} {W : World} {a : Option Addr} {len cap : Nat} {d : DataW H} {p : List MemPlace} (h : DataW.Trod enc Try.prog W 0 (fun _ => true) true 22 (.slice a len cap) d p) :
    ∃ xs, xs.length = len ∧ len ≤ maxLen ∧ (∀ v ∈ xs, Byt v) ∧ Rd eB 1 W a xs := by
  obtain ⟨fuel, hf⟩ := h
  exact open_rd (encf := eB) (k := 1) (fun _ => rfl) (by decide) Byt Try.underlying22 (by kernel_rfl) (fun n cs y hy => by
    obtain ⟨m, rfl, _, hm⟩ := DataW.trod_int Try.underlying5 hy
    exact ⟨m, rfl, byt_wf hm⟩) hf
theorem open_int64s {H : Type} {enc : TypeId × Value → H} {W : World} {a : Option Addr} {len cap : Nat} {d : DataW H} {p : List MemPlace} (h : DataW.Trod enc Try.prog W 0 (fun _ => true) true 34 (.slice a len cap) d p) :
    ∃ xs, xs.length = len ∧ len ≤ maxLen ∧ (∀ v ∈ xs, I64 v) ∧ Rd eI 1 W a xs := by
  obtain ⟨fuel, hf⟩ := h
  exact open_rd (encf := eI) (k := 1) (fun _ => rfl) (by decide) I64 Try.underlying34 (by kernel_rfl) (fun n cs y hy => by
    obtain ⟨m, rfl, _, hm⟩ := DataW.trod_int Try.underlying2 hy
    exact ⟨m, rfl, i64_wf hm⟩) hf

structure Eph where
  epoch : Int
  per : Int
def Eph.enc (v : Eph) : List Value := [.int .i64 v.epoch, .int .i64 v.per]
theorem Eph.len (v : Eph) : v.enc.length = 2 := rfl
def Eph.zero : Eph := ⟨0, 0⟩
instance : Inhabited Eph := ⟨Eph.zero⟩
theorem Eph.one (v : Eph) : ∀ u ∈ v.enc, u.oneCell' = true := by
  intro u hu; simp [Eph.enc] at hu; rcases hu with rfl | rfl <;> rfl
def Eph.Ok (v : Eph) : Prop := I64 v.epoch ∧ I64 v.per
theorem Try.info85 : (Try.prog.info? 85).map (fun i => (i.zero, i.size, i.bytes)) = some (some (.agg #[.int .i64 0, .int .i64 0]), 2, 16) := by kernel_rfl

structure Pt where
  time : Int
  mag : Int
def Pt.enc (v : Pt) : List Value := [.int .i64 v.time, .int .i64 v.mag]
theorem Pt.len (v : Pt) : v.enc.length = 2 := rfl
def Pt.zero : Pt := ⟨0, 0⟩
instance : Inhabited Pt := ⟨Pt.zero⟩
theorem Pt.one (v : Pt) : ∀ u ∈ v.enc, u.oneCell' = true := by
  intro u hu; simp [Pt.enc] at hu; rcases hu with rfl | rfl <;> rfl
def Pt.Ok (v : Pt) : Prop := I64 v.time ∧ I64 v.mag
theorem Try.info53 : (Try.prog.info? 53).map (fun i => (i.zero, i.size, i.bytes)) = some (some (.agg #[.int .i64 0, .int .i64 0]), 2, 16) := by kernel_rfl

structure Lnk where
  a : Int
  b : Int
  diff : Int
def Lnk.enc (v : Lnk) : List Value := [.int .i64 v.a, .int .i64 v.b, .int .i64 v.diff]
theorem Lnk.len (v : Lnk) : v.enc.length = 3 := rfl
def Lnk.zero : Lnk := ⟨0, 0, 0⟩
instance : Inhabited Lnk := ⟨Lnk.zero⟩
theorem Lnk.one (v : Lnk) : ∀ u ∈ v.enc, u.oneCell' = true := by
  intro u hu; simp [Lnk.enc] at hu; rcases hu with rfl | rfl | rfl <;> rfl
def Lnk.Ok (v : Lnk) : Prop := I64 v.a ∧ I64 v.b ∧ I64 v.diff
theorem Try.info75 : (Try.prog.info? 75).map (fun i => (i.zero, i.size, i.bytes)) = some (some (.agg #[.int .i64 0, .int .i64 0, .int .i64 0]), 3, 24) := by kernel_rfl

end Go.Proofs.Ytcebjjkckfopiaa
