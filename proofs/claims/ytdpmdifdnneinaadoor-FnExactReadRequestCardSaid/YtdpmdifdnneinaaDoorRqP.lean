/-
  A request's text and its parts, in plain lists: no program in sight.
-/
import Derived.Test.YtdpmdifdnneinaaDoorReqU
import Derived.Test.YtdpmdifdnneinaaDoorNumC
namespace Go.Proofs.YtdpmdifdnneinaaDoor
open Go.RowKit
set_option maxRecDepth 100000
set_option linter.unusedVariables false
/-- s is the text of the valid request x -/
def RdQ (s : ByteArray) (x : Req) : Prop := reqB x = true ∧ textB x = s
def prioB : ByteArray := ⟨#[112, 114, 105, 111, 114, 105, 116, 121]⟩
def rngB (x : Req) : ByteArray := decB x.frm ++ ⟨#[46, 46]⟩ ++ decB x.til
def sharB (x : Req) : ByteArray := decB x.done ++ ⟨#[47]⟩ ++ decB x.want
def partsR (x : Req) : List ByteArray := [x.star, rngB x, sharB x, prioB, decB x.prio]
theorem decB_list (n : Int) : (decB n).data.toList = Lib.itoa n := by unfold decB; simp
theorem itoa_in {n : Int} {b : UInt8} (h : b ∈ Lib.itoa n) : b = 45 ∨ isDg b := by
  unfold Lib.itoa at h
  split at h
  · rcases List.mem_cons.1 h with h | h
    · exact Or.inl h
    · exact Or.inr ((dec_dg _ _ (Nat.lt_succ_self _)).1 b h)
  · exact Or.inr ((dec_dg _ _ (Nat.lt_succ_self _)).1 b h)
theorem itoa_no {n : Int} {c : UInt8} (h : c ≠ 45) (h1 : c.toNat < 48) : c ∉ Lib.itoa n := fun hm => by
  rcases itoa_in hm with e | e
  · exact h e
  · unfold isDg at e; omega
theorem n32 (n : Int) : (32 : UInt8) ∉ Lib.itoa n := itoa_no (by decide) (by decide)
theorem n46 (n : Int) : (46 : UInt8) ∉ Lib.itoa n := itoa_no (by decide) (by decide)
theorem n47 (n : Int) : (47 : UInt8) ∉ Lib.itoa n := itoa_no (by decide) (by decide)
theorem rng_list (x : Req) : (rngB x).data.toList = Lib.itoa x.frm ++ 46 :: 46 :: Lib.itoa x.til := by
  unfold rngB
  simp [ByteArray.data_append, decB_list]
theorem shar_list (x : Req) : (sharB x).data.toList = Lib.itoa x.done ++ 47 :: Lib.itoa x.want := by
  unfold sharB
  simp [ByteArray.data_append, decB_list]
theorem text_jn (x : Req) : jnC 32 ((partsR x).map (·.data.toList)) = (textB x).data.toList := by
  unfold textB partsR rngB sharB prioB
  simp [jnC, ByteArray.data_append]
theorem name_no {s : ByteArray} (h : nameB s = true) : (32 : UInt8) ∉ s.data.toList := by
  intro hm
  obtain ⟨j, hj, e⟩ := List.mem_iff_getElem.1 hm
  have hlen : s.data.toList.length = s.size := Array.length_toList
  have hj' : j < s.size := by omega
  unfold nameB at h
  simp only [Bool.and_eq_true] at h
  have h2 := (List.all_eq_true.1 h.2) j (List.mem_range.2 hj')
  rw [chB_eq s j hj'] at h2
  have e' : s[j]'hj' = 32 := e
  rw [e'] at h2
  revert h2
  simp [smallB, digB]
theorem reqB_iff {x : Req} : reqB x = true ↔ nameB x.star = true ∧ (0 ≤ x.frm ∧ x.frm ≤ 10000000) ∧ (x.frm ≤ x.til ∧ x.til ≤ 10000000) ∧ (1 ≤ x.want ∧ x.want ≤ 100) ∧ (0 ≤ x.done ∧ x.done ≤ x.want) ∧ 1 ≤ x.prio ∧ x.prio ≤ 5 := by
  unfold reqB
  simp only [Bool.and_eq_true, inB_iff]
structure RqParts (s : ByteArray) (x : Req) : Prop where
  cut : cutC 32 s = partsR x
  two : Lib.cut (rngB x).data.toList [46, 46] = (Lib.itoa x.frm, Lib.itoa x.til, true)
  one : Lib.cut (sharB x).data.toList [47] = (Lib.itoa x.done, Lib.itoa x.want, true)
  dots : cutC 46 (rngB x) = [decB x.frm, ByteArray.empty, decB x.til]
  slash : cutC 47 (sharB x) = [decB x.done, decB x.want]
  q1 : NumQ (decB x.frm).data.toList x.frm
  q2 : NumQ (decB x.til).data.toList x.til
  q3 : NumQ (decB x.done).data.toList x.done
  q4 : NumQ (decB x.want).data.toList x.want
  q5 : NumQ (decB x.prio).data.toList x.prio
theorem num_dec {n : Int} (h0 : 0 ≤ n) (h1 : n ≤ 10000000) : NumQ (decB n).data.toList n := by
  rw [decB_list]
  exact NumQ.mk_small (by omega) (by omega)
theorem RdQ.parts {s : ByteArray} {x : Req} (h : RdQ s x) : RqParts s x := by
  obtain ⟨h1, rfl⟩ := h
  obtain ⟨g1, g2, g3, g4, g5, g6⟩ := reqB_iff.1 h1
  refine ⟨?_, ?_, ?_, ?_, ?_, num_dec (by omega) (by omega), num_dec (by omega) (by omega), num_dec (by omega) (by omega), num_dec (by omega) (by omega), num_dec (by omega) (by omega)⟩
  · refine cutC_uniq ⟨by simp [partsR], fun y hy => ?_, text_jn x⟩
    simp only [partsR, List.map_cons, List.map_nil, List.mem_cons, List.not_mem_nil, or_false] at hy
    rcases hy with rfl | rfl | rfl | rfl | rfl
    · exact name_no g1
    · rw [rng_list]
      simp [n32]
    · rw [shar_list]
      simp [n32]
    · show (32 : UInt8) ∉ prioB.data.toList
      decide
    · rw [decB_list]; exact n32 _
  · rw [rng_list]; exact cut_two _ (n46 _)
  · rw [shar_list]; exact cut_one _ (n47 _)
  · refine cutC_uniq ⟨by simp, fun y hy => ?_, ?_⟩
    · simp only [List.map_cons, List.map_nil, List.mem_cons, List.not_mem_nil, or_false] at hy
      rcases hy with rfl | rfl | rfl
      · rw [decB_list]; exact n46 _
      · simp
      · rw [decB_list]; exact n46 _
    · rw [rng_list]
      simp [jnC, decB_list]
  · refine cutC_uniq ⟨by simp, fun y hy => ?_, ?_⟩
    · simp only [List.map_cons, List.map_nil, List.mem_cons, List.not_mem_nil, or_false] at hy
      rcases hy with rfl | rfl
      · rw [decB_list]; exact n47 _
      · rw [decB_list]; exact n47 _
    · rw [shar_list]
      simp [jnC, decB_list]
theorem NumQ.dec {t : ByteArray} {n : Int} (h : NumQ t.data.toList n) : decB n = t := ba_ext (by rw [decB_list]; exact h.1)
/-- the reference's parts give the request's text -/
theorem RdQ.of_spec {s w1 w2 w4 a b c d : ByteArray} {x : Req} (hw : cutC 32 s = [x.star, w1, w2, prioB, w4]) (h1 : cutC 46 w1 = [a, ByteArray.empty, b]) (h2 : cutC 47 w2 = [c, d])
    (q1 : NumQ a.data.toList x.frm) (q2 : NumQ b.data.toList x.til) (q3 : NumQ c.data.toList x.done) (q4 : NumQ d.data.toList x.want) (q5 : NumQ w4.data.toList x.prio) (hx : reqB x = true) : RdQ s x := by
  refine ⟨hx, ?_⟩
  have e1 : w1 = rngB x := by
    apply ba_ext
    have := (cutC_cut 46 w1).jn
    rw [h1] at this
    rw [← this, rng_list, q1.1, q2.1]
    simp [jnC]
  have e2 : w2 = sharB x := by
    apply ba_ext
    have := (cutC_cut 47 w2).jn
    rw [h2] at this
    rw [← this, shar_list, q3.1, q4.1]
    simp [jnC]
  have e4 := q5.dec
  apply ba_ext
  have := (cutC_cut 32 s).jn
  rw [hw] at this
  rw [← this, ← text_jn x, e1, e2, ← e4]
  rfl
theorem RdQ.uniq {s : ByteArray} {x y : Req} (h1 : RdQ s x) (h2 : RdQ s y) : x = y := by
  have p := h1.parts
  have q := h2.parts
  have e := p.cut.symm.trans q.cut
  unfold partsR at e
  injection e with e0 e
  injection e with e1 e
  injection e with e2 e
  injection e with _ e
  injection e with e4 _
  have d1 := p.dots
  rw [e1, q.dots] at d1
  injection d1 with d1 d2
  injection d2 with _ d2
  injection d2 with d2 _
  have d3 := p.slash
  rw [e2, q.slash] at d3
  injection d3 with d3 d4
  injection d4 with d4 _
  have key : ∀ {m n : Int}, decB m = decB n → m = n := fun h => by
    have := congrArg (fun t : ByteArray => t.data.toList) h
    simp only [decB_list] at this
    exact itoa_inj this
  obtain ⟨_, _, _, _, _, _⟩ := x
  obtain ⟨_, _, _, _, _, _⟩ := y
  simp only at e0 e4 d1 d2 d3 d4
  rw [e0, key e4, key d1, key d2, key d3, key d4]
open Classical in
/-- the request with the text s, if there is one -/
noncomputable def rdV (s : ByteArray) : Option Req := if h : ∃ x, RdQ s x then some h.choose else none
theorem rdV_some {s : ByteArray} {x : Req} (h : RdQ s x) : rdV s = some x := by
  unfold rdV
  rw [dif_pos ⟨x, h⟩]
  exact congrArg some ((Exists.choose_spec (⟨x, h⟩ : ∃ x, RdQ s x)).uniq h)
theorem rdV_none {s : ByteArray} (h : ∀ x, ¬ RdQ s x) : rdV s = none := by
  unfold rdV
  rw [dif_neg (fun ⟨x, hx⟩ => h x hx)]
open Classical in
/-- the number with the decimal form l, if there is one -/
noncomputable def numV (l : List UInt8) : Option Int := if h : ∃ n, NumQ l n then some h.choose else none
theorem numV_some {l : List UInt8} {n : Int} (h : NumQ l n) : numV l = some n := by
  unfold numV
  rw [dif_pos ⟨n, h⟩]
  exact congrArg some ((Exists.choose_spec (⟨n, h⟩ : ∃ n, NumQ l n)).uniq h)
theorem numV_none {l : List UInt8} (h : ∀ n, ¬ NumQ l n) : numV l = none := by
  unfold numV
  rw [dif_neg (fun ⟨n, hn⟩ => h n hn)]
theorem numV_iff {l : List UInt8} {n : Int} : numV l = some n ↔ NumQ l n := by
  refine ⟨fun h => ?_, numV_some⟩
  unfold numV at h
  split at h
  · rename_i hx
    injection h with h
    rw [← h]
    exact hx.choose_spec
  · cases h
end Go.Proofs.YtdpmdifdnneinaaDoor
