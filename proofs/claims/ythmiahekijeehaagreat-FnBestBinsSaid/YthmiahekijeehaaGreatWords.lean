/-
  The program's structs in Lean, their cells; the arguments of the laws, opened.
-/
import Derived.Test.YthmiahekijeehaaGreatRows
import Derived.Test.YthmiahekijeehaaGreatBase
import Derived.ProofKit
namespace Go.Proofs.YthmiahekijeehaaGreat
open Go.RowKit

def Byt (x : Int) : Prop := 0 ≤ x ∧ x < 256
def I64 (x : Int) : Prop := -9223372036854775808 ≤ x ∧ x ≤ 9223372036854775807
def StrOk (s : ByteArray) : Prop := s.size ≤ maxLen
theorem byt_wf {n : Int} (h : (Lit.int .u8 n).wf = true) : Byt n := by
  simp [Lit.wf, IntKind.min, IntKind.max, IntKind.signed, IntKind.bits] at h
  unfold Byt; omega
theorem i64_wf {n : Int} (h : (Lit.int .i64 n).wf = true) : I64 n := by
  simp [Lit.wf, IntKind.min, IntKind.max, IntKind.signed, IntKind.bits] at h
  unfold I64; omega
theorem open_bytes {H : Type} {enc : TypeId × Value → H} {W : World} {a : Option Addr} {len cap : Nat} {d : DataW H} {p : List MemPlace} (h : DataW.Trod enc Tryz.prog W 0 (fun _ => true) true 22 (.slice a len cap) d p) :
    ∃ xs, xs.length = len ∧ len ≤ maxLen ∧ (∀ v ∈ xs, Byt v) ∧ Rd eB 1 W a xs := by
  obtain ⟨fuel, hf⟩ := h
  exact open_rd (encf := eB) (k := 1) (fun _ => rfl) (by decide) Byt Tryz.underlying22 (by kernel_rfl) (fun n cs y hy => by
    obtain ⟨m, rfl, _, hm⟩ := DataW.trod_int Tryz.underlying5 hy
    exact ⟨m, rfl, byt_wf hm⟩) hf
theorem open_int64s {H : Type} {enc : TypeId × Value → H} {W : World} {a : Option Addr} {len cap : Nat} {d : DataW H} {p : List MemPlace} (h : DataW.Trod enc Tryz.prog W 0 (fun _ => true) true 39 (.slice a len cap) d p) :
    ∃ xs, xs.length = len ∧ len ≤ maxLen ∧ (∀ v ∈ xs, I64 v) ∧ Rd eI 1 W a xs := by
  obtain ⟨fuel, hf⟩ := h
  exact open_rd (encf := eI) (k := 1) (fun _ => rfl) (by decide) I64 Tryz.underlying39 (by kernel_rfl) (fun n cs y hy => by
    obtain ⟨m, rfl, _, hm⟩ := DataW.trod_int Tryz.underlying2 hy
    exact ⟨m, rfl, i64_wf hm⟩) hf

structure Eph where
  epoch : Int
  per : Int
def Eph.enc (v : Eph) : List Value := [.int .i64 v.epoch, .int .i64 v.per]
theorem Eph.len (v : Eph) : v.enc.length = 2 := rfl
def Eph.zero : Eph := ⟨0, 0⟩
instance : Inhabited Eph := ⟨Eph.zero⟩
theorem Eph.one (v : Eph) : ∀ u ∈ v.enc, u.oneCell' = true := by
  intro u hu; simp [Eph.enc] at hu; rcases hu with rfl | rfl <;> rfl
def Eph.Ok (v : Eph) : Prop := I64 v.epoch ∧ I64 v.per
theorem Tryz.info93 : (Tryz.prog.info? 93).map (fun i => (i.zero, i.size, i.bytes)) = some (some (.agg #[.int .i64 0, .int .i64 0]), 2, 16) := by kernel_rfl

structure Frac where
  num : Int
  den : Int
def Frac.enc (v : Frac) : List Value := [.int .i64 v.num, .int .i64 v.den]
theorem Frac.len (v : Frac) : v.enc.length = 2 := rfl
def Frac.zero : Frac := ⟨0, 0⟩
instance : Inhabited Frac := ⟨Frac.zero⟩
theorem Frac.one (v : Frac) : ∀ u ∈ v.enc, u.oneCell' = true := by
  intro u hu; simp [Frac.enc] at hu; rcases hu with rfl | rfl <;> rfl
def Frac.Ok (v : Frac) : Prop := I64 v.num ∧ I64 v.den
theorem Tryz.info45 : (Tryz.prog.info? 45).map (fun i => (i.zero, i.size, i.bytes)) = some (some (.agg #[.int .i64 0, .int .i64 0]), 2, 16) := by kernel_rfl

structure Pt where
  time : Int
  mag : Int
def Pt.enc (v : Pt) : List Value := [.int .i64 v.time, .int .i64 v.mag]
theorem Pt.len (v : Pt) : v.enc.length = 2 := rfl
def Pt.zero : Pt := ⟨0, 0⟩
instance : Inhabited Pt := ⟨Pt.zero⟩
theorem Pt.one (v : Pt) : ∀ u ∈ v.enc, u.oneCell' = true := by
  intro u hu; simp [Pt.enc] at hu; rcases hu with rfl | rfl <;> rfl
def Pt.Ok (v : Pt) : Prop := I64 v.time ∧ I64 v.mag
theorem Tryz.info74 : (Tryz.prog.info? 74).map (fun i => (i.zero, i.size, i.bytes)) = some (some (.agg #[.int .i64 0, .int .i64 0]), 2, 16) := by kernel_rfl

end Go.Proofs.YthmiahekijeehaaGreat
