/-
  The program's structs in Lean, their cells; the arguments of the laws, opened.
-/
import Derived.Test.YtdcldiadjdpaeaaRows
import Derived.Test.YtdcldiadjdpaeaaBase
import Derived.ProofKit
namespace Go.Proofs.Ytdcldiadjdpaeaa
open Go.RowKit

def Byt (x : Int) : Prop := 0 ≤ x ∧ x < 256
def I64 (x : Int) : Prop := -9223372036854775808 ≤ x ∧ x ≤ 9223372036854775807
def StrOk (s : ByteArray) : Prop := s.size ≤ maxLen
theorem byt_wf {n : Int} (h : (Lit.int .u8 n).wf = true) : Byt n := by
  simp [Lit.wf, IntKind.min, IntKind.max, IntKind.signed, IntKind.bits] at h
  unfold Byt; omega
theorem i64_wf {n : Int} (h : (Lit.int .i64 n).wf = true) : I64 n := by
  simp [Lit.wf, IntKind.min, IntKind.max, IntKind.signed, IntKind.bits] at h
  unfold I64; omega
theorem open_bytes {H : Type} {enc : TypeId × Value → H} {W : World} {a : Option Addr} {len cap : Nat} {d : DataW H} {p : List MemPlace} (h : DataW.Trod enc Try.prog W 0 (fun _ => true) true 22 (.slice a len cap) d p) :
    ∃ xs, xs.length = len ∧ len ≤ maxLen ∧ (∀ v ∈ xs, Byt v) ∧ Rd eB 1 W a xs := by
  obtain ⟨fuel, hf⟩ := h
  exact open_rd (encf := eB) (k := 1) (fun _ => rfl) (by decide) Byt Try.underlying22 (by kernel_rfl) (fun n cs y hy => by
    obtain ⟨m, rfl, _, hm⟩ := DataW.trod_int Try.underlying5 hy
    exact ⟨m, rfl, byt_wf hm⟩) hf
theorem open_int64s {H : Type} {enc : TypeId × Value → H} {W : World} {a : Option Addr} {len cap : Nat} {d : DataW H} {p : List MemPlace} (h : DataW.Trod enc Try.prog W 0 (fun _ => true) true 27 (.slice a len cap) d p) :
    ∃ xs, xs.length = len ∧ len ≤ maxLen ∧ (∀ v ∈ xs, I64 v) ∧ Rd eI 1 W a xs := by
  obtain ⟨fuel, hf⟩ := h
  exact open_rd (encf := eI) (k := 1) (fun _ => rfl) (by decide) I64 Try.underlying27 (by kernel_rfl) (fun n cs y hy => by
    obtain ⟨m, rfl, _, hm⟩ := DataW.trod_int Try.underlying2 hy
    exact ⟨m, rfl, i64_wf hm⟩) hf

structure Com where
  a : Int
  b : Int
  diff : Int
def Com.enc (v : Com) : List Value := [.int .i64 v.a, .int .i64 v.b, .int .i64 v.diff]
theorem Com.len (v : Com) : v.enc.length = 3 := rfl
def Com.zero : Com := ⟨0, 0, 0⟩
instance : Inhabited Com := ⟨Com.zero⟩
theorem Com.one (v : Com) : ∀ u ∈ v.enc, u.oneCell' = true := by
  intro u hu; simp [Com.enc] at hu; rcases hu with rfl | rfl | rfl <;> rfl
def Com.Ok (v : Com) : Prop := I64 v.a ∧ I64 v.b ∧ I64 v.diff
theorem Try.info40 : (Try.prog.info? 40).map (fun i => (i.zero, i.size, i.bytes)) = some (some (.agg #[.int .i64 0, .int .i64 0, .int .i64 0]), 3, 24) := by kernel_rfl

end Go.Proofs.Ytdcldiadjdpaeaa
