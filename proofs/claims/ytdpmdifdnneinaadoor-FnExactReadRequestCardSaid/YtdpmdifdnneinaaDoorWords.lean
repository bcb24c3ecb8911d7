/-
  The program's structs in Lean, their cells; the arguments of the laws, opened.
-/
import Derived.Test.YtdpmdifdnneinaaDoorRows
import Derived.Test.YtdpmdifdnneinaaDoorBase
import Derived.ProofKit
namespace Go.Proofs.YtdpmdifdnneinaaDoor
open Go.RowKit

def Byt (x : Int) : Prop := 0 ≤ x ∧ x < 256
def I64 (x : Int) : Prop := -9223372036854775808 ≤ x ∧ x ≤ 9223372036854775807
def StrOk (s : ByteArray) : Prop := s.size ≤ maxLen
theorem byt_wf {n : Int} (h : (Lit.int .u8 n).wf = true) : Byt n := by
  simp [Lit.wf, IntKind.min, IntKind.max, IntKind.signed, IntKind.bits] at h
  unfold Byt; omega
theorem i64_wf {n : Int} (h : (Lit.int .i64 n).wf = true) : I64 n := by
  simp [Lit.wf, IntKind.min, IntKind.max, IntKind.signed, IntKind.bits] at h
  unfold I64; omega
theorem open_bytes {H : Type} {enc : TypeId × Value → H} {W : World} {a : Option Addr} {len cap : Nat} {d : DataW H} {p : List MemPlace} (h : DataW.Trod enc Tryd.prog W 0 (fun _ => true) true 52 (.slice a len cap) d p) :
    ∃ xs, xs.length = len ∧ len ≤ maxLen ∧ (∀ v ∈ xs, Byt v) ∧ Rd eB 1 W a xs := by
  obtain ⟨fuel, hf⟩ := h
  exact open_rd (encf := eB) (k := 1) (fun _ => rfl) (by decide) Byt Tryd.underlying52 (by kernel_rfl) (fun n cs y hy => by
    obtain ⟨m, rfl, _, hm⟩ := DataW.trod_int Tryd.underlying5 hy
    exact ⟨m, rfl, byt_wf hm⟩) hf
theorem open_stringsR {H : Type} {enc : TypeId × Value → H} {W : World} {a : Option Addr} {len cap : Nat} {d : DataW H} {p : List MemPlace} (h : DataW.Trod enc Tryd.prog W 0 (fun _ => true) true 28 (.slice a len cap) d p) :
    ∃ xs, xs.length = len ∧ len ≤ maxLen ∧ (∀ v ∈ xs, StrOk v) ∧ Rd eS 1 W a xs := by
  obtain ⟨fuel, hf⟩ := h
  exact open_rd (encf := eS) (k := 1) (fun _ => rfl) (by decide) StrOk Tryd.underlying28 (by kernel_rfl) (fun n cs y hy => by
    obtain ⟨m, rfl, _, hm⟩ := DataW.trod_string Tryd.underlying9 hy
    exact ⟨m, rfl, hm⟩) hf

structure Req where
  star : ByteArray
  frm : Int
  til : Int
  want : Int
  done : Int
  prio : Int
def Req.enc (v : Req) : List Value := [.string v.star, .int .i64 v.frm, .int .i64 v.til, .int .i64 v.want, .int .i64 v.done, .int .i64 v.prio]
theorem Req.len (v : Req) : v.enc.length = 6 := rfl
def Req.zero : Req := ⟨ByteArray.empty, 0, 0, 0, 0, 0⟩
instance : Inhabited Req := ⟨Req.zero⟩
theorem Req.one (v : Req) : ∀ u ∈ v.enc, u.oneCell' = true := by
  intro u hu; simp [Req.enc] at hu; rcases hu with rfl | rfl | rfl | rfl | rfl | rfl <;> rfl
def Req.Ok (v : Req) : Prop := v.star.size ≤ maxLen ∧ I64 v.frm ∧ I64 v.til ∧ I64 v.want ∧ I64 v.done ∧ I64 v.prio
theorem Tryd.info23 : (Tryd.prog.info? 23).map (fun i => (i.zero, i.size, i.bytes)) = some (some (.agg #[.string ByteArray.empty, .int .i64 0, .int .i64 0, .int .i64 0, .int .i64 0, .int .i64 0]), 6, 56) := by kernel_rfl

end Go.Proofs.YtdpmdifdnneinaaDoor
