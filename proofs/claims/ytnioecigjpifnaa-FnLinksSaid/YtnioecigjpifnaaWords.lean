/-
  The program's structs in Lean, their cells; the arguments of the laws, opened.
-/
import Derived.Test.YtnioecigjpifnaaRows
import Derived.Test.YtnioecigjpifnaaBase
import Derived.ProofKit
namespace Go.Proofs.Ytnioecigjpifnaa
open Go.RowKit

def Byt (x : Int) : Prop := 0 ≤ x ∧ x < 256
def I64 (x : Int) : Prop := -9223372036854775808 ≤ x ∧ x ≤ 9223372036854775807
def StrOk (s : ByteArray) : Prop := s.size ≤ maxLen
theorem byt_wf {n : Int} (h : (Lit.int .u8 n).wf = true) : Byt n := by
  simp [Lit.wf, IntKind.min, IntKind.max, IntKind.signed, IntKind.bits] at h
  unfold Byt; omega
theorem i64_wf {n : Int} (h : (Lit.int .i64 n).wf = true) : I64 n := by
  simp [Lit.wf, IntKind.min, IntKind.max, IntKind.signed, IntKind.bits] at h
  unfold I64; omega
theorem open_bytes {H : Type} {enc : TypeId × Value → H} {W : World} {a : Option Addr} {len cap : Nat} {d : DataW H} {p : List MemPlace} (h : DataW.Trod enc Try.prog W 0 (fun _ => true) true 34 (.slice a len cap) d p) :
    ∃ xs, xs.length = len ∧ len ≤ maxLen ∧ (∀ v ∈ xs, Byt v) ∧ Rd eB 1 W a xs := by
  obtain ⟨fuel, hf⟩ := h
  exact open_rd (encf := eB) (k := 1) (fun _ => rfl) (by decide) Byt Try.underlying34 (by kernel_rfl) (fun n cs y hy => by
    obtain ⟨m, rfl, _, hm⟩ := DataW.trod_int Try.underlying5 hy
    exact ⟨m, rfl, byt_wf hm⟩) hf
theorem open_int64s {H : Type} {enc : TypeId × Value → H} {W : World} {a : Option Addr} {len cap : Nat} {d : DataW H} {p : List MemPlace} (h : DataW.Trod enc Try.prog W 0 (fun _ => true) true 39 (.slice a len cap) d p) :
    ∃ xs, xs.length = len ∧ len ≤ maxLen ∧ (∀ v ∈ xs, I64 v) ∧ Rd eI 1 W a xs := by
  obtain ⟨fuel, hf⟩ := h
  exact open_rd (encf := eI) (k := 1) (fun _ => rfl) (by decide) I64 Try.underlying39 (by kernel_rfl) (fun n cs y hy => by
    obtain ⟨m, rfl, _, hm⟩ := DataW.trod_int Try.underlying2 hy
    exact ⟨m, rfl, i64_wf hm⟩) hf

structure Vol where
  name : ByteArray
  frm : Int
  til : Int
  cnt : Int
  cop : Int
def Vol.enc (v : Vol) : List Value := [.string v.name, .int .i64 v.frm, .int .i64 v.til, .int .i64 v.cnt, .int .i64 v.cop]
theorem Vol.len (v : Vol) : v.enc.length = 5 := rfl
def Vol.zero : Vol := ⟨ByteArray.empty, 0, 0, 0, 0⟩
instance : Inhabited Vol := ⟨Vol.zero⟩
theorem Vol.one (v : Vol) : ∀ u ∈ v.enc, u.oneCell' = true := by
  intro u hu; simp [Vol.enc] at hu; rcases hu with rfl | rfl | rfl | rfl | rfl <;> rfl
def Vol.Ok (v : Vol) : Prop := v.name.size ≤ maxLen ∧ I64 v.frm ∧ I64 v.til ∧ I64 v.cnt ∧ I64 v.cop
theorem Try.info57 : (Try.prog.info? 57).map (fun i => (i.zero, i.size, i.bytes)) = some (some (.agg #[.string ByteArray.empty, .int .i64 0, .int .i64 0, .int .i64 0, .int .i64 0]), 5, 48) := by kernel_rfl
set_option maxRecDepth 100000
theorem Vol.trod {H : Type} {enc : TypeId × Value → H} {W : World} {n : Nat} {cs : List Value} {y : DataW H × List MemPlace} (hy : DataW.trod enc Try.prog W 0 (fun _ => true) true n 54 cs = some y) : ∃ x : Vol, Vol.enc x = cs ∧ Vol.Ok x := by
  have hC : Try.prog.cellsOf 54 = 5 := by kernel_rfl
  have hC2 : Try.prog.cellsOf 2 = 1 := by kernel_rfl
  have hC9 : Try.prog.cellsOf 9 = 1 := by kernel_rfl
  obtain ⟨xs, m, _, _, hl, hx, hf⟩ := DataW.trod_struct Try.underlying54 hy
  rw [hC] at hl
  have hxl : xs.length = 5 := hx
  match cs, hl with
  | [c0, c1, c2, c3, c4], _ =>
    have hi0 : 0 < xs.length := by omega
    have g0 : DataW.trod enc Try.prog W 0 (fun _ => true) true m 9 [c0] = xs[0]? := by simpa [hC9] using hf 0 _ rfl
    rw [List.getElem?_eq_getElem hi0] at g0
    obtain ⟨q0, e0, _, w0⟩ := DataW.trod_string Try.underlying9 g0
    simp at e0
    subst e0
    have hi1 : 1 < xs.length := by omega
    have g1 : DataW.trod enc Try.prog W 0 (fun _ => true) true m 2 [c1] = xs[1]? := by simpa [hC2] using hf 1 _ rfl
    rw [List.getElem?_eq_getElem hi1] at g1
    obtain ⟨q1, e1, _, w1⟩ := DataW.trod_int Try.underlying2 g1
    simp at e1
    subst e1
    have hi2 : 2 < xs.length := by omega
    have g2 : DataW.trod enc Try.prog W 0 (fun _ => true) true m 2 [c2] = xs[2]? := by simpa [hC2] using hf 2 _ rfl
    rw [List.getElem?_eq_getElem hi2] at g2
    obtain ⟨q2, e2, _, w2⟩ := DataW.trod_int Try.underlying2 g2
    simp at e2
    subst e2
    have hi3 : 3 < xs.length := by omega
    have g3 : DataW.trod enc Try.prog W 0 (fun _ => true) true m 2 [c3] = xs[3]? := by simpa [hC2] using hf 3 _ rfl
    rw [List.getElem?_eq_getElem hi3] at g3
    obtain ⟨q3, e3, _, w3⟩ := DataW.trod_int Try.underlying2 g3
    simp at e3
    subst e3
    have hi4 : 4 < xs.length := by omega
    have g4 : DataW.trod enc Try.prog W 0 (fun _ => true) true m 2 [c4] = xs[4]? := by simpa [hC2] using hf 4 _ rfl
    rw [List.getElem?_eq_getElem hi4] at g4
    obtain ⟨q4, e4, _, w4⟩ := DataW.trod_int Try.underlying2 g4
    simp at e4
    subst e4
    exact ⟨⟨q0, q1, q2, q3, q4⟩, rfl, w0, i64_wf w1, i64_wf w2, i64_wf w3, i64_wf w4⟩
theorem open_Vols {H : Type} {enc : TypeId × Value → H} {W : World} {a : Option Addr} {len cap : Nat} {d : DataW H} {p : List MemPlace} (h : DataW.Trod enc Try.prog W 0 (fun _ => true) true 22 (.slice a len cap) d p) :
    ∃ xs, xs.length = len ∧ len ≤ maxLen ∧ (∀ v ∈ xs, Vol.Ok v) ∧ Rd Vol.enc 5 W a xs := by
  obtain ⟨fuel, hf⟩ := h
  exact open_rd (encf := Vol.enc) (k := 5) (fun _ => rfl) (by decide) Vol.Ok Try.underlying22 (by kernel_rfl) (fun n cs y hy => Vol.trod hy) hf
theorem open_Vol {H : Type} {enc : TypeId × Value → H} {W : World} {v : Value} {d : DataW H} {p : List MemPlace} (hv : Value.okWide Try.prog W .any 0 54 v) (h : DataW.Trod enc Try.prog W 0 (fun _ => true) true 54 v d p) :
    ∃ x : Vol, v = .agg #[.string x.name, .int .i64 x.frm, .int .i64 x.til, .int .i64 x.cnt, .int .i64 x.cop] ∧ Vol.Ok x := by
  obtain ⟨cs, rfl, hsz⟩ := Go.WideShapes.okWide_struct Try.underlying54 hv
  obtain ⟨fuel, hf⟩ := h
  obtain ⟨x, hx, hok⟩ := Vol.trod hf
  refine ⟨x, ?_, hok⟩
  simp only [Value.cells] at hx
  cases cs with | mk l => simp only at hx; subst hx; rfl

structure Win where
  frm : Int
  til : Int
def Win.enc (v : Win) : List Value := [.int .i64 v.frm, .int .i64 v.til]
theorem Win.len (v : Win) : v.enc.length = 2 := rfl
def Win.zero : Win := ⟨0, 0⟩
instance : Inhabited Win := ⟨Win.zero⟩
theorem Win.one (v : Win) : ∀ u ∈ v.enc, u.oneCell' = true := by
  intro u hu; simp [Win.enc] at hu; rcases hu with rfl | rfl <;> rfl
def Win.Ok (v : Win) : Prop := I64 v.frm ∧ I64 v.til
theorem Try.info60 : (Try.prog.info? 60).map (fun i => (i.zero, i.size, i.bytes)) = some (some (.agg #[.int .i64 0, .int .i64 0]), 2, 16) := by kernel_rfl

structure Lnk where
  a : Int
  b : Int
  diff : Int
def Lnk.enc (v : Lnk) : List Value := [.int .i64 v.a, .int .i64 v.b, .int .i64 v.diff]
theorem Lnk.len (v : Lnk) : v.enc.length = 3 := rfl
def Lnk.zero : Lnk := ⟨0, 0, 0⟩
instance : Inhabited Lnk := ⟨Lnk.zero⟩
theorem Lnk.one (v : Lnk) : ∀ u ∈ v.enc, u.oneCell' = true := by
  intro u hu; simp [Lnk.enc] at hu; rcases hu with rfl | rfl | rfl <;> rfl
def Lnk.Ok (v : Lnk) : Prop := I64 v.a ∧ I64 v.b ∧ I64 v.diff
theorem Try.info50 : (Try.prog.info? 50).map (fun i => (i.zero, i.size, i.bytes)) = some (some (.agg #[.int .i64 0, .int .i64 0, .int .i64 0]), 3, 24) := by kernel_rfl

end Go.Proofs.Ytnioecigjpifnaa
