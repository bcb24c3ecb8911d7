/-
  Requests read, in the reference.
-/
import Derived.Test.YtdpmdifdnneinaaDoorSp1
import Derived.Deep.CutRange
import Derived.Deep.Light
import Derived.Laws.ResultCell
namespace Go.Proofs.YtdpmdifdnneinaaDoor
open Go.RowKit
set_option maxRecDepth 100000
set_option linter.unusedVariables false
set_option linter.unusedSimpArgs false
/-- a row of texts -/
def RowN (w : World) (b o : Nat) (L : List ByteArray) : Prop := b < w.heap.size ∧ ∀ i x, L[i]? = some x → w.cell? ⟨b, o + i, none⟩ = some (.string x)
theorem RowN.below {w w' : World} {b o : Nat} {L : List ByteArray} (h : RowN w b o L) (hb : Below w.heap.size w w') : RowN w' b o L :=
  ⟨Nat.lt_of_lt_of_le h.1 hb.size, fun i x hx => (hb.cell (p := ⟨b, _, none⟩) h.1).trans (h.2 i x hx)⟩
theorem rowN {w : World} {a : Option Addr} {x : ByteArray} {L : List ByteArray} (h : Rd eS 1 w a (x :: L)) : ∃ b o, a = some ⟨b, o, none⟩ ∧ RowN w b o (x :: L) := by
  obtain ⟨b, o, ha, hlt, _⟩ := h.at1 (i := 0) (x := x) rfl rfl
  refine ⟨b, o, ha, hlt, fun i y hy => ?_⟩
  obtain ⟨b', o', ha', _, hc⟩ := h.at1 (i := i) hy rfl
  rw [ha] at ha'
  simp only [Option.some.injEq, Addr.mk.injEq, and_true] at ha'
  obtain ⟨rfl, rfl⟩ := ha'
  exact hc
theorem RowN.c0 {w : World} {b o : Nat} {x : ByteArray} {L : List ByteArray} (h : RowN w b o (x :: L)) : w.cell? ⟨b, o, none⟩ = some (.string x) := h.2 0 x rfl
theorem jnC_le (c : UInt8) : ∀ (L : List (List UInt8)) (x : List UInt8), x ∈ L → x.length ≤ (jnC c L).length
  | [y], x, h => by rw [List.mem_singleton] at h; rw [h]; exact Nat.le_refl _
  | y :: z :: r, x, h => by
    show x.length ≤ (y ++ c :: jnC c (z :: r)).length
    rw [List.length_append, List.length_cons]
    rcases List.mem_cons.1 h with rfl | h
    · omega
    · have := jnC_le c (z :: r) x h
      omega
theorem cutC_mem {c : UInt8} {s x : ByteArray} (h : x ∈ cutC c s) : x.size ≤ s.size := by
  have h1 := jnC_le c _ _ (List.mem_map_of_mem (f := fun t : ByteArray => t.data.toList) h)
  rw [(cutC_cut c s).jn] at h1
  have e : ∀ t : ByteArray, t.data.toList.length = t.size := fun t => Array.length_toList
  rw [e, e] at h1
  exact h1
theorem cutC_some {c : UInt8} {s : ByteArray} : ∃ x L, cutC c s = x :: L := by
  cases h : cutC c s with
  | nil => have := cutC_len c s; rw [h] at this; simp at this
  | cons x L => exact ⟨x, L, rfl⟩
theorem numAny (s : ByteArray) (o : Option Int) (w : World) (hs : s.size ≤ 1048576) (h : numV s.data.toList = o) : Calls Tryd.prog 9 #[.string s] w fun e w' => e = .returned (.tuple #[.int .i64 (o.getD 0), .bool o.isSome]) ∧ Below w.heap.size w w' := by
  have h1 := number_any s w hs
  unfold numR at h1
  rw [h] at h1
  have e : numT o = .tuple #[.int .i64 (o.getD 0), .bool o.isSome] := by cases o <;> rfl
  rw [e] at h1
  exact h1
theorem split32 (s : ByteArray) (w : World) (hs : s.size ≤ 1048576) : Calls Tryd.prog 7 #[.string s, .int .u8 32] w fun e w' => ∃ a' n' c', e = .returned (.slice a' n' c') ∧ n' = (cutC 32 s).length ∧ Rd eS 1 w' a' (cutC 32 s) ∧ Below w.heap.size w w' := by
  refine (splitC_any 32 s w hs).mono ?_
  rintro e w' ⟨a', n', c', he, _, ho, hb⟩
  exact ⟨a', n', c', he, (ho.len eS_len (by decide)).symm, ho.rd eS_len (by decide), hb⟩
theorem split46 (s : ByteArray) (w : World) (hs : s.size ≤ 1048576) : Calls Tryd.prog 7 #[.string s, .int .u8 46] w fun e w' => ∃ a' n' c', e = .returned (.slice a' n' c') ∧ n' = (cutC 46 s).length ∧ Rd eS 1 w' a' (cutC 46 s) ∧ Below w.heap.size w w' := by
  refine (splitC_any 46 s w hs).mono ?_
  rintro e w' ⟨a', n', c', he, _, ho, hb⟩
  exact ⟨a', n', c', he, (ho.len eS_len (by decide)).symm, ho.rd eS_len (by decide), hb⟩
theorem split47 (s : ByteArray) (w : World) (hs : s.size ≤ 1048576) : Calls Tryd.prog 7 #[.string s, .int .u8 47] w fun e w' => ∃ a' n' c', e = .returned (.slice a' n' c') ∧ n' = (cutC 47 s).length ∧ Rd eS 1 w' a' (cutC 47 s) ∧ Below w.heap.size w w' := by
  refine (splitC_any 47 s w hs).mono ?_
  rintro e w' ⟨a', n', c', he, _, ho, hb⟩
  exact ⟨a', n', c', he, (ho.len eS_len (by decide)).symm, ho.rd eS_len (by decide), hb⟩
set_option maxHeartbeats 4000000 in
theorem rng_yes (s A B : ByteArray) (x y : Int) (w : World) (hs : s.size ≤ 1048576) (hc : cutC 46 s = [A, ByteArray.empty, B]) (q1 : NumQ A.data.toList x) (q2 : NumQ B.data.toList y) :
    Calls Tryd.prog 8 #[.string s] w fun e w' => e = .returned (.tuple #[.int .i64 x, .int .i64 y, .bool true]) ∧ Below w.heap.size w w' := by
  have z1 : A.size ≤ s.size := cutC_mem (c := 46) (by rw [hc]; simp)
  have z2 : B.size ≤ s.size := cutC_mem (c := 46) (by rw [hc]; simp)
  have HC := Lib.hid hc
  have HS := Lib.hid fun wq => split46 s wq hs
  have HN1 : Hid (∀ wq, Calls Tryd.prog 9 #[.string A] wq fun e w' => e = .returned (.tuple #[.int .i64 x, .bool true]) ∧ Below wq.heap.size wq w') := Lib.hid fun wq => numAny A (some x) wq (by omega) (numV_some q1)
  have HN2 : Hid (∀ wq, Calls Tryd.prog 9 #[.string B] wq fun e w' => e = .returned (.tuple #[.int .i64 y, .bool true]) ∧ Below wq.heap.size wq w') := Lib.hid fun wq => numAny B (some y) wq (by omega) (numV_some q2)
  clear hc q1 q2
  have d1 : (ByteArray.empty.toList == ([] : List UInt8)) = true := (nilF rfl).1
  have d2 : ByteArray.empty.toList = [] := (nilF rfl).2.2
  go_enter Tryd.func8, Tryd.ntmps8
  go_wp2_with fail
  refine (HS.out _).mono ?_
  rintro e w1 ⟨a1, n1, c1, rfl, hn1, hr1, hb1⟩
  rw [HC.out] at hn1 hr1
  obtain rfl : n1 = 3 := hn1
  obtain ⟨b, o, rfl, hrow⟩ := rowN hr1
  have HR := Lib.hid hrow
  have HB1 := Lib.hid hb1
  clear hr1 hb1
  have k1 := HR.out.2 1 _ rfl
  have k0 := HR.out.c0
  clear hrow
  go_wp2_with fail
  refine (HN1.out _).mono ?_
  rintro e w2 ⟨rfl, hb2⟩
  have HB2 := Lib.hid (HB1.out.trans (hb2.mono HB1.out.size))
  have HR2 := Lib.hid (HR.out.below hb2)
  clear k0 k1 hb2
  have k2 := HR2.out.2 2 _ rfl
  go_wp2_with fail
  refine (HN2.out _).mono ?_
  rintro e w3 ⟨rfl, hb3⟩
  have HB3 := Lib.hid (HB2.out.trans (hb3.mono HB2.out.size))
  clear k2 hb3
  go_wp2_with fail
  go_ret3
  exact ⟨rfl, HB3.out⟩
set_option maxHeartbeats 4000000 in
theorem rng_no (s : ByteArray) (w : World) (hs : s.size ≤ 1048576) (hno : ∀ A B x y, cutC 46 s = [A, ByteArray.empty, B] → NumQ A.data.toList x → ¬ NumQ B.data.toList y) :
    Calls Tryd.prog 8 #[.string s] w fun e w' => ∃ x y, e = .returned (.tuple #[.int .i64 x, .int .i64 y, .bool false]) ∧ Below w.heap.size w w' := by
  have HS := Lib.hid fun wq => split46 s wq hs
  by_cases hlen : (cutC 46 s).length = 3
  case neg =>
    go_enter Tryd.func8, Tryd.ntmps8
    go_wp2_with fail
    refine (HS.out _).mono ?_
    rintro e w1 ⟨a1, n1, c1, rfl, hn1, hr1, hb1⟩
    have d0 : ((n1 : Int) != 3) = true := by rw [bne_iff_ne]; omega
    have HB1 := Lib.hid hb1
    clear hr1 hb1
    go_wp2_with fail
    go_ret3
    exact ⟨0, 0, rfl, HB1.out⟩
  case pos =>
  obtain ⟨A, M, B, hc⟩ : ∃ A M B, cutC 46 s = [A, M, B] := by
    match h : cutC 46 s, hlen with
    | [A, M, B], _ => exact ⟨A, M, B, rfl⟩
  have z1 : A.size ≤ s.size := cutC_mem (c := 46) (by rw [hc]; simp)
  have z2 : B.size ≤ s.size := cutC_mem (c := 46) (by rw [hc]; simp)
  by_cases hm : M.size = 0
  case neg =>
    obtain ⟨e1, e2, e3⟩ := consF (s := M) (by omega)
    have HC := Lib.hid hc
    clear hc hlen hno hm
    go_enter Tryd.func8, Tryd.ntmps8
    go_wp2_with fail
    refine (HS.out _).mono ?_
    rintro e w1 ⟨a1, n1, c1, rfl, hn1, hr1, hb1⟩
    rw [HC.out] at hn1 hr1
    obtain rfl : n1 = 3 := hn1
    obtain ⟨b, o, rfl, hrow⟩ := rowN hr1
    have HR := Lib.hid hrow
    have HB1 := Lib.hid hb1
    clear hr1 hb1
    have k1 := HR.out.2 1 _ rfl
    go_wp2_with fail
    go_ret3
    exact ⟨0, 0, rfl, HB1.out⟩
  case pos =>
  have hM : M = ByteArray.empty := by
    apply ba_ext
    have e : M.data.toList.length = M.size := Array.length_toList
    rw [hm] at e
    rw [List.eq_nil_of_length_eq_zero e]; rfl
  subst hM
  have d1 : (ByteArray.empty.toList == ([] : List UInt8)) = true := (nilF rfl).1
  have d2 : ByteArray.empty.toList = [] := (nilF rfl).2.2
  obtain ⟨o1, h1⟩ : ∃ o1, numV A.data.toList = o1 := ⟨_, rfl⟩
  obtain ⟨o2, h2⟩ : ∃ o2, numV B.data.toList = o2 := ⟨_, rfl⟩
  have hb : o1.isSome = false ∨ (o1.isSome = true ∧ o2.isSome = false) := by
    cases o1 with
    | none => exact Or.inl rfl
    | some x =>
      cases o2 with
      | none => exact Or.inr ⟨rfl, rfl⟩
      | some y => exact absurd (numV_iff.1 h2) (hno A B x y hc (numV_iff.1 h1))
  obtain ⟨v1, b1, hv1, hb1⟩ : ∃ v b, o1.getD 0 = v ∧ o1.isSome = b := ⟨_, _, rfl, rfl⟩
  obtain ⟨v2, b2, hv2, hb2⟩ : ∃ v b, o2.getD 0 = v ∧ o2.isSome = b := ⟨_, _, rfl, rfl⟩
  have HC := Lib.hid hc
  have HN1 : Hid (∀ wq, Calls Tryd.prog 9 #[.string A] wq fun e w' => e = .returned (.tuple #[.int .i64 v1, .bool b1]) ∧ Below wq.heap.size wq w') := Lib.hid fun wq => by have := numAny A o1 wq (by omega) h1; rw [hv1, hb1] at this; exact this
  have HN2 : Hid (∀ wq, Calls Tryd.prog 9 #[.string B] wq fun e w' => e = .returned (.tuple #[.int .i64 v2, .bool b2]) ∧ Below wq.heap.size wq w') := Lib.hid fun wq => by have := numAny B o2 wq (by omega) h2; rw [hv2, hb2] at this; exact this
  rw [hb1, hb2] at hb
  clear hc hlen hno hm h1 h2 hv1 hv2 hb1 hb2
  rcases hb with rfl | ⟨rfl, rfl⟩
  all_goals
    go_enter Tryd.func8, Tryd.ntmps8
    go_wp2_with fail
    refine (HS.out _).mono ?_
    rintro e w1 ⟨a1, n1, c1, rfl, hn1, hr1, hb1⟩
    rw [HC.out] at hn1 hr1
    obtain rfl : n1 = 3 := hn1
    obtain ⟨b, o, rfl, hrow⟩ := rowN hr1
    have HR := Lib.hid hrow
    have HB1 := Lib.hid hb1
    clear hr1 hb1
    have k1 := HR.out.2 1 _ rfl
    have k0 := HR.out.c0
    clear hrow
    go_wp2_with fail
    refine (HN1.out _).mono ?_
    rintro e w2 ⟨rfl, hb2⟩
    have HB2 := Lib.hid (HB1.out.trans (hb2.mono HB1.out.size))
    have HR2 := Lib.hid (HR.out.below hb2)
    clear k0 k1 hb2
    have k2 := HR2.out.2 2 _ rfl
    go_wp2_with fail
    refine (HN2.out _).mono ?_
    rintro e w3 ⟨rfl, hb3⟩
    have HB3 := Lib.hid (HB2.out.trans (hb3.mono HB2.out.size))
    clear k2 hb3
    go_wp2_with fail
    go_ret3
    exact ⟨_, _, rfl, HB3.out⟩
theorem Ow.sixth {w : World} {base e b : Nat} {v : Req} (h : Ow Req.enc 6 w base e (.slice (some ⟨b, 0, none⟩) 1 1) 1 [v]) : w.cell? ⟨b, 0, none⟩ = some (.string v.star) ∧ w.cell? ⟨b, 1, none⟩ = some (.int .i64 v.frm) ∧ w.cell? ⟨b, 2, none⟩ = some (.int .i64 v.til) ∧ w.cell? ⟨b, 3, none⟩ = some (.int .i64 v.want) ∧ w.cell? ⟨b, 4, none⟩ = some (.int .i64 v.done) ∧ w.cell? ⟨b, 5, none⟩ = some (.int .i64 v.prio) :=
  ⟨h.cellG Req.len (by decide) 0 _ rfl, h.cellG Req.len (by decide) 1 _ rfl, h.cellG Req.len (by decide) 2 _ rfl, h.cellG Req.len (by decide) 3 _ rfl, h.cellG Req.len (by decide) 4 _ rfl, h.cellG Req.len (by decide) 5 _ rfl⟩
/-- what both sides return -/
noncomputable def rdR (s : ByteArray) : Value := match rdV s with
  | some x => .tuple #[.agg #[.string x.star, .int .i64 x.frm, .int .i64 x.til, .int .i64 x.want, .int .i64 x.done, .int .i64 x.prio], .bool true]
  | none => .tuple #[.agg #[.string ByteArray.empty, .int .i64 0, .int .i64 0, .int .i64 0, .int .i64 0, .int .i64 0], .bool false]
theorem rdR_yes {s : ByteArray} {x : Req} (h : RdQ s x) : rdR s = .tuple #[.agg #[.string x.star, .int .i64 x.frm, .int .i64 x.til, .int .i64 x.want, .int .i64 x.done, .int .i64 x.prio], .bool true] := by
  unfold rdR; rw [rdV_some h]
theorem rdR_no {s : ByteArray} (h : ∀ x, ¬ RdQ s x) : rdR s = .tuple #[.agg #[.string ByteArray.empty, .int .i64 0, .int .i64 0, .int .i64 0, .int .i64 0, .int .i64 0], .bool false] := by
  unfold rdR; rw [rdV_none h]
set_option maxHeartbeats 4000000 in
theorem specRead (s : ByteArray) (w : World) (hs : s.size ≤ 1048576) : Calls Tryd.prog 4 #[.string s] w fun e w' => e = .returned (rdR s) ∧ Below w.heap.size w w' := by
  have HS := Lib.hid fun wq => split32 s wq hs
  by_cases hlen : (cutC 32 s).length = 5
  case neg =>
    have HX := Lib.hid (rdR_no (s := s) fun x hx => hlen (by rw [hx.parts.cut]; rfl))
    go_enter Tryd.func4, Tryd.ntmps4
    go_wp2_with fail
    have hown := Ow.oneG Req.len w Req.zero 23
    have hb0 : Below w.heap.size w (w.alloc (.cells Req.zero.enc.toArray 23)) := (Below.refl _ _).alloc (Nat.le_refl _) _
    have hlt : w.heap.size < (w.alloc (.cells Req.zero.enc.toArray 23)).heap.size := by simp
    change Calls _ _ _ (w.alloc (.cells Req.zero.enc.toArray 23)) _
    generalize w.alloc (.cells Req.zero.enc.toArray 23) = w0 at *
    have HOWN := Lib.hid hown
    have HB := Lib.hid hb0
    have HLT := Lib.hid hlt
    clear hown hb0 hlt
    refine (HS.out _).mono ?_
    rintro e w1 ⟨a1, n1, c1, rfl, hn1, hr1, hb1⟩
    have HOWN := Lib.hid (HOWN.out.below hb1)
    have HB := Lib.hid (HB.out.trans (hb1.mono (Nat.le_of_lt HLT.out)))
    have HLT := Lib.hid (Nat.lt_of_lt_of_le HLT.out hb1.size)
    clear hb1
    have d0 : ((n1 : Int) != 5) = true := by rw [bne_iff_ne]; omega
    clear hr1
    have hown := HOWN.out
    have hle : w.heap.size ≤ w1.heap.size := Nat.le_of_lt HLT.out
    obtain ⟨nv, hnv⟩ : ∃ nv : Req, nv = Req.zero := ⟨_, rfl⟩
    have HY : Hid (([Req.zero] : List Req).set 0 Req.zero = [nv]) := Lib.hid (by rw [hnv]; rfl)
    have HN := Lib.hid hnv
    clear hnv
    go_wp2_with (with_reducible refine wpl_set Req.len (by decide) _ rfl 23 (.tmp 2) (.tmp 27) rfl w.heap.size 0 rfl _ rfl Req.zero rfl ?s1 (Req.one _) w.heap.size 23 1 1 0 [Req.zero] hown (by decide) rfl w.heap.size (Nat.le_refl _) ?s2 [nv] HY ?_)
    case s1 => kernel_rfl
    case s2 => omega
    intro wz hownz hbz _
    obtain ⟨c0, c1, c2, c3, c4, c5⟩ := Ow.sixth hownz
    have HE := Lib.hid (HB.out.trans hbz)
    clear hownz hbz hown hle
    go_wp2_with fail
    refine bodyPost_ret (v := .tuple #[.agg #[.string nv.star, .int .i64 nv.frm, .int .i64 nv.til, .int .i64 nv.want, .int .i64 nv.done, .int .i64 nv.prio], .bool false]) ((results_cell_tmp rfl _ _ _).trans ?r1) rfl ?_
    case r1 => go_simp
    exact ⟨(by rw [HX.out, HN.out]; try rfl), HE.out⟩
  case pos =>
  obtain ⟨p0, p1, p2, p3, p4, hc⟩ : ∃ p0 p1 p2 p3 p4, cutC 32 s = [p0, p1, p2, p3, p4] := by
    match h : cutC 32 s, hlen with
    | [p0, p1, p2, p3, p4], _ => exact ⟨p0, p1, p2, p3, p4, rfl⟩
  have z0 : p0.size ≤ s.size := cutC_mem (c := 32) (by rw [hc]; simp)
  have z1 : p1.size ≤ s.size := cutC_mem (c := 32) (by rw [hc]; simp)
  have z2 : p2.size ≤ s.size := cutC_mem (c := 32) (by rw [hc]; simp)
  have z4 : p4.size ≤ s.size := cutC_mem (c := 32) (by rw [hc]; simp)
  have HC := Lib.hid hc
  have hpart : ∀ x, RdQ s x → p0 = x.star ∧ p1 = rngB x ∧ p2 = sharB x ∧ p3 = prioB ∧ p4 = decB x.prio := fun x hx => by
    have e := hc.symm.trans hx.parts.cut
    unfold partsR at e
    injection e with e0 e
    injection e with e1 e
    injection e with e2 e
    injection e with e3 e
    injection e with e4 _
    exact ⟨e0, e1, e2, e3, e4⟩
  clear hlen
  by_cases h3 : p3 = prioB
  case neg =>
    have HX := Lib.hid (rdR_no (s := s) fun x hx => h3 (hpart x hx).2.2.2.1)
    have e3 : (p3.toList == [112, 114, 105, 111, 114, 105, 116, 121]) = false := by rw [beq_eq_false_iff_ne]; intro e; rw [toL] at e; exact h3 (ba_ext e)
    clear hc h3 hpart
    go_enter Tryd.func4, Tryd.ntmps4
    go_wp2_with fail
    have hown := Ow.oneG Req.len w Req.zero 23
    have hb0 : Below w.heap.size w (w.alloc (.cells Req.zero.enc.toArray 23)) := (Below.refl _ _).alloc (Nat.le_refl _) _
    have hlt : w.heap.size < (w.alloc (.cells Req.zero.enc.toArray 23)).heap.size := by simp
    change Calls _ _ _ (w.alloc (.cells Req.zero.enc.toArray 23)) _
    generalize w.alloc (.cells Req.zero.enc.toArray 23) = w0 at *
    have HOWN := Lib.hid hown
    have HB := Lib.hid hb0
    have HLT := Lib.hid hlt
    clear hown hb0 hlt
    refine (HS.out _).mono ?_
    rintro e w1 ⟨a1, n1, c1, rfl, hn1, hr1, hb1⟩
    have HOWN := Lib.hid (HOWN.out.below hb1)
    have HB := Lib.hid (HB.out.trans (hb1.mono (Nat.le_of_lt HLT.out)))
    have HLT := Lib.hid (Nat.lt_of_lt_of_le HLT.out hb1.size)
    clear hb1
    rw [HC.out] at hn1 hr1
    obtain rfl : n1 = 5 := hn1
    obtain ⟨b, o, rfl, hrow⟩ := rowN hr1
    have HR := Lib.hid hrow
    clear hrow hr1
    have k3 := HR.out.2 3 _ rfl
    have hown := HOWN.out
    have hle : w.heap.size ≤ w1.heap.size := Nat.le_of_lt HLT.out
    obtain ⟨nv, hnv⟩ : ∃ nv : Req, nv = Req.zero := ⟨_, rfl⟩
    have HY : Hid (([Req.zero] : List Req).set 0 Req.zero = [nv]) := Lib.hid (by rw [hnv]; rfl)
    have HN := Lib.hid hnv
    clear hnv
    go_wp2_with (with_reducible refine wpl_set Req.len (by decide) _ rfl 23 (.tmp 2) (.tmp 27) rfl w.heap.size 0 rfl _ rfl Req.zero rfl ?s1 (Req.one _) w.heap.size 23 1 1 0 [Req.zero] hown (by decide) rfl w.heap.size (Nat.le_refl _) ?s2 [nv] HY ?_)
    case s1 => kernel_rfl
    case s2 => omega
    intro wz hownz hbz _
    obtain ⟨c0, c1, c2, c3, c4, c5⟩ := Ow.sixth hownz
    have HE := Lib.hid (HB.out.trans hbz)
    clear hownz hbz hown hle
    go_wp2_with fail
    refine bodyPost_ret (v := .tuple #[.agg #[.string nv.star, .int .i64 nv.frm, .int .i64 nv.til, .int .i64 nv.want, .int .i64 nv.done, .int .i64 nv.prio], .bool false]) ((results_cell_tmp rfl _ _ _).trans ?r1) rfl ?_
    case r1 => go_simp
    exact ⟨(by rw [HX.out, HN.out]; try rfl), HE.out⟩
  case pos =>
  subst h3
  have HS2 := Lib.hid fun wq => split47 p2 wq (by omega)
  have e3 : ((⟨#[112, 114, 105, 111, 114, 105, 116, 121]⟩ : ByteArray).toList != (⟨#[112, 114, 105, 111, 114, 105, 116, 121]⟩ : ByteArray).toList) = false := by simp
  have HC : Hid (cutC 32 s = [p0, p1, p2, ⟨#[112, 114, 105, 111, 114, 105, 116, 121]⟩, p4]) := HC
  by_cases hrg : ∃ A B x y, cutC 46 p1 = [A, ByteArray.empty, B] ∧ NumQ A.data.toList x ∧ NumQ B.data.toList y
  case neg =>
    have HX := Lib.hid (rdR_no (s := s) fun x hx => hrg ⟨_, _, _, _, by rw [(hpart x hx).2.1]; exact hx.parts.dots, hx.parts.q1, hx.parts.q2⟩)
    have HRG := Lib.hid fun wq => rng_no p1 wq (by omega) fun A B x y h1 h2 h3 => hrg ⟨A, B, x, y, h1, h2, h3⟩
    clear hc hrg hpart
    go_enter Tryd.func4, Tryd.ntmps4
    go_wp2_with fail
    have hown := Ow.oneG Req.len w Req.zero 23
    have hb0 : Below w.heap.size w (w.alloc (.cells Req.zero.enc.toArray 23)) := (Below.refl _ _).alloc (Nat.le_refl _) _
    have hlt : w.heap.size < (w.alloc (.cells Req.zero.enc.toArray 23)).heap.size := by simp
    change Calls _ _ _ (w.alloc (.cells Req.zero.enc.toArray 23)) _
    generalize w.alloc (.cells Req.zero.enc.toArray 23) = w0 at *
    have HOWN := Lib.hid hown
    have HB := Lib.hid hb0
    have HLT := Lib.hid hlt
    clear hown hb0 hlt
    refine (HS.out _).mono ?_
    rintro e w1 ⟨a1, n1, c1, rfl, hn1, hr1, hb1⟩
    have HOWN := Lib.hid (HOWN.out.below hb1)
    have HB := Lib.hid (HB.out.trans (hb1.mono (Nat.le_of_lt HLT.out)))
    have HLT := Lib.hid (Nat.lt_of_lt_of_le HLT.out hb1.size)
    clear hb1
    rw [HC.out] at hn1 hr1
    obtain rfl : n1 = 5 := hn1
    obtain ⟨b, o, rfl, hrow⟩ := rowN hr1
    have HR := Lib.hid hrow
    clear hrow hr1
    have k3 := HR.out.2 3 _ rfl
    have k1 := HR.out.2 1 _ rfl
    go_wp2_with fail
    refine (HRG.out _).mono ?_
    rintro e w2 ⟨x1, y1, rfl, hb2⟩
    have HOWN := Lib.hid (HOWN.out.below hb2)
    have HB := Lib.hid (HB.out.trans (hb2.mono (Nat.le_of_lt HLT.out)))
    have HLT := Lib.hid (Nat.lt_of_lt_of_le HLT.out hb2.size)
    have HR := Lib.hid (HR.out.below hb2)
    clear hb2
    clear k1 k3
    have k2 := HR.out.2 2 _ rfl
    go_wp2_with fail
    refine (HS2.out _).mono ?_
    rintro e w3 ⟨a2, n2, c2, rfl, hn2, hr2, hb3⟩
    have HOWN := Lib.hid (HOWN.out.below hb3)
    have HB := Lib.hid (HB.out.trans (hb3.mono (Nat.le_of_lt HLT.out)))
    have HLT := Lib.hid (Nat.lt_of_lt_of_le HLT.out hb3.size)
    have HR := Lib.hid (HR.out.below hb3)
    clear hb3
    clear k2
    clear hr2 hn2
    have hown := HOWN.out
    have hle : w.heap.size ≤ w3.heap.size := Nat.le_of_lt HLT.out
    obtain ⟨nv, hnv⟩ : ∃ nv : Req, nv = Req.zero := ⟨_, rfl⟩
    have HY : Hid (([Req.zero] : List Req).set 0 Req.zero = [nv]) := Lib.hid (by rw [hnv]; rfl)
    have HN := Lib.hid hnv
    clear hnv
    go_wp2_with (with_reducible refine wpl_set Req.len (by decide) _ rfl 23 (.tmp 2) (.tmp 47) rfl w.heap.size 0 rfl _ rfl Req.zero rfl ?s1 (Req.one _) w.heap.size 23 1 1 0 [Req.zero] hown (by decide) rfl w.heap.size (Nat.le_refl _) ?s2 [nv] HY ?_)
    case s1 => kernel_rfl
    case s2 => omega
    intro wz hownz hbz _
    obtain ⟨c0, c1, c2, c3, c4, c5⟩ := Ow.sixth hownz
    have HE := Lib.hid (HB.out.trans hbz)
    clear hownz hbz hown hle
    go_wp2_with fail
    refine bodyPost_ret (v := .tuple #[.agg #[.string nv.star, .int .i64 nv.frm, .int .i64 nv.til, .int .i64 nv.want, .int .i64 nv.done, .int .i64 nv.prio], .bool false]) ((results_cell_tmp rfl _ _ _).trans ?r1) rfl ?_
    case r1 => go_simp
    exact ⟨(by rw [HX.out, HN.out]; try rfl), HE.out⟩
  case pos =>
  obtain ⟨A, B, fx, fy, hd, qa, qb⟩ := hrg
  have HRG := Lib.hid fun wq => rng_yes p1 A B fx fy wq (by omega) hd qa qb
  by_cases hl2 : (cutC 47 p2).length = 2
  case neg =>
    have HX := Lib.hid (rdR_no (s := s) fun x hx => hl2 (by rw [(hpart x hx).2.2.1, hx.parts.slash]; rfl))
    clear hc hpart hd qa qb
    go_enter Tryd.func4, Tryd.ntmps4
    go_wp2_with fail
    have hown := Ow.oneG Req.len w Req.zero 23
    have hb0 : Below w.heap.size w (w.alloc (.cells Req.zero.enc.toArray 23)) := (Below.refl _ _).alloc (Nat.le_refl _) _
    have hlt : w.heap.size < (w.alloc (.cells Req.zero.enc.toArray 23)).heap.size := by simp
    change Calls _ _ _ (w.alloc (.cells Req.zero.enc.toArray 23)) _
    generalize w.alloc (.cells Req.zero.enc.toArray 23) = w0 at *
    have HOWN := Lib.hid hown
    have HB := Lib.hid hb0
    have HLT := Lib.hid hlt
    clear hown hb0 hlt
    refine (HS.out _).mono ?_
    rintro e w1 ⟨a1, n1, c1, rfl, hn1, hr1, hb1⟩
    have HOWN := Lib.hid (HOWN.out.below hb1)
    have HB := Lib.hid (HB.out.trans (hb1.mono (Nat.le_of_lt HLT.out)))
    have HLT := Lib.hid (Nat.lt_of_lt_of_le HLT.out hb1.size)
    clear hb1
    rw [HC.out] at hn1 hr1
    obtain rfl : n1 = 5 := hn1
    obtain ⟨b, o, rfl, hrow⟩ := rowN hr1
    have HR := Lib.hid hrow
    clear hrow hr1
    have k3 := HR.out.2 3 _ rfl
    have k1 := HR.out.2 1 _ rfl
    go_wp2_with fail
    refine (HRG.out _).mono ?_
    rintro e w2 ⟨rfl, hb2⟩
    have HOWN := Lib.hid (HOWN.out.below hb2)
    have HB := Lib.hid (HB.out.trans (hb2.mono (Nat.le_of_lt HLT.out)))
    have HLT := Lib.hid (Nat.lt_of_lt_of_le HLT.out hb2.size)
    have HR := Lib.hid (HR.out.below hb2)
    clear hb2
    clear k1 k3
    have k2 := HR.out.2 2 _ rfl
    go_wp2_with fail
    refine (HS2.out _).mono ?_
    rintro e w3 ⟨a2, n2, c2, rfl, hn2, hr2, hb3⟩
    have HOWN := Lib.hid (HOWN.out.below hb3)
    have HB := Lib.hid (HB.out.trans (hb3.mono (Nat.le_of_lt HLT.out)))
    have HLT := Lib.hid (Nat.lt_of_lt_of_le HLT.out hb3.size)
    have HR := Lib.hid (HR.out.below hb3)
    clear hb3
    clear k2
    have d0 : ((n2 : Int) != 2) = true := by rw [bne_iff_ne]; omega
    clear hr2
    have hown := HOWN.out
    have hle : w.heap.size ≤ w3.heap.size := Nat.le_of_lt HLT.out
    obtain ⟨nv, hnv⟩ : ∃ nv : Req, nv = Req.zero := ⟨_, rfl⟩
    have HY : Hid (([Req.zero] : List Req).set 0 Req.zero = [nv]) := Lib.hid (by rw [hnv]; rfl)
    have HN := Lib.hid hnv
    clear hnv
    go_wp2_with (with_reducible refine wpl_set Req.len (by decide) _ rfl 23 (.tmp 2) (.tmp 47) rfl w.heap.size 0 rfl _ rfl Req.zero rfl ?s1 (Req.one _) w.heap.size 23 1 1 0 [Req.zero] hown (by decide) rfl w.heap.size (Nat.le_refl _) ?s2 [nv] HY ?_)
    case s1 => kernel_rfl
    case s2 => omega
    intro wz hownz hbz _
    obtain ⟨c0, c1, c2, c3, c4, c5⟩ := Ow.sixth hownz
    have HE := Lib.hid (HB.out.trans hbz)
    clear hownz hbz hown hle
    go_wp2_with fail
    refine bodyPost_ret (v := .tuple #[.agg #[.string nv.star, .int .i64 nv.frm, .int .i64 nv.til, .int .i64 nv.want, .int .i64 nv.done, .int .i64 nv.prio], .bool false]) ((results_cell_tmp rfl _ _ _).trans ?r1) rfl ?_
    case r1 => go_simp
    exact ⟨(by rw [HX.out, HN.out]; try rfl), HE.out⟩
  case pos =>
  obtain ⟨C, D, hc2⟩ : ∃ C D, cutC 47 p2 = [C, D] := by
    match h : cutC 47 p2, hl2 with
    | [C, D], _ => exact ⟨C, D, rfl⟩
  have y1 : C.size ≤ p2.size := cutC_mem (c := 47) (by rw [hc2]; simp)
  have y2 : D.size ≤ p2.size := cutC_mem (c := 47) (by rw [hc2]; simp)
  have HC2 := Lib.hid hc2
  have hCD : ∀ x, RdQ s x → C = decB x.done ∧ D = decB x.want := fun x hx => by
    have e := hc2
    rw [(hpart x hx).2.2.1, hx.parts.slash] at e
    injection e with e0 e
    injection e with e1 _
    exact ⟨e0.symm, e1.symm⟩
  clear hl2
  obtain ⟨o3, h3⟩ : ∃ o3, numV C.data.toList = o3 := ⟨_, rfl⟩
  obtain ⟨o4, h4⟩ : ∃ o4, numV D.data.toList = o4 := ⟨_, rfl⟩
  obtain ⟨o5, h5⟩ : ∃ o5, numV p4.data.toList = o5 := ⟨_, rfl⟩
  obtain ⟨v3, b3, hv3, hb3⟩ : ∃ v b, o3.getD 0 = v ∧ o3.isSome = b := ⟨_, _, rfl, rfl⟩
  obtain ⟨v4, b4, hv4, hb4⟩ : ∃ v b, o4.getD 0 = v ∧ o4.isSome = b := ⟨_, _, rfl, rfl⟩
  obtain ⟨v5, b5, hv5, hb5⟩ : ∃ v b, o5.getD 0 = v ∧ o5.isSome = b := ⟨_, _, rfl, rfl⟩
  have HN3 : Hid (∀ wq, Calls Tryd.prog 9 #[.string C] wq fun e w' => e = .returned (.tuple #[.int .i64 v3, .bool b3]) ∧ Below wq.heap.size wq w') := Lib.hid fun wq => by have := numAny C o3 wq (by omega) h3; rw [hv3, hb3] at this; exact this
  have HN4 : Hid (∀ wq, Calls Tryd.prog 9 #[.string D] wq fun e w' => e = .returned (.tuple #[.int .i64 v4, .bool b4]) ∧ Below wq.heap.size wq w') := Lib.hid fun wq => by have := numAny D o4 wq (by omega) h4; rw [hv4, hb4] at this; exact this
  have HN5 : Hid (∀ wq, Calls Tryd.prog 9 #[.string p4] wq fun e w' => e = .returned (.tuple #[.int .i64 v5, .bool b5]) ∧ Below wq.heap.size wq w') := Lib.hid fun wq => by have := numAny p4 o5 wq (by omega) h5; rw [hv5, hb5] at this; exact this
  cases b3 with
  | false =>
    have HX := Lib.hid (rdR_no (s := s) fun x hx => by
      rw [(hCD x hx).1, numV_some hx.parts.q3] at h3
      rw [← h3] at hb3
      cases hb3)
    clear hc hpart hd qa qb hCD hc2 h3 h4 h5 hv3 hv4 hv5 hb3 hb4 hb5
    go_enter Tryd.func4, Tryd.ntmps4
    go_wp2_with fail
    have hown := Ow.oneG Req.len w Req.zero 23
    have hb0 : Below w.heap.size w (w.alloc (.cells Req.zero.enc.toArray 23)) := (Below.refl _ _).alloc (Nat.le_refl _) _
    have hlt : w.heap.size < (w.alloc (.cells Req.zero.enc.toArray 23)).heap.size := by simp
    change Calls _ _ _ (w.alloc (.cells Req.zero.enc.toArray 23)) _
    generalize w.alloc (.cells Req.zero.enc.toArray 23) = w0 at *
    have HOWN := Lib.hid hown
    have HB := Lib.hid hb0
    have HLT := Lib.hid hlt
    clear hown hb0 hlt
    refine (HS.out _).mono ?_
    rintro e w1 ⟨a1, n1, c1, rfl, hn1, hr1, hb1⟩
    have HOWN := Lib.hid (HOWN.out.below hb1)
    have HB := Lib.hid (HB.out.trans (hb1.mono (Nat.le_of_lt HLT.out)))
    have HLT := Lib.hid (Nat.lt_of_lt_of_le HLT.out hb1.size)
    clear hb1
    rw [HC.out] at hn1 hr1
    obtain rfl : n1 = 5 := hn1
    obtain ⟨b, o, rfl, hrow⟩ := rowN hr1
    have HR := Lib.hid hrow
    clear hrow hr1
    have k3 := HR.out.2 3 _ rfl
    have k1 := HR.out.2 1 _ rfl
    go_wp2_with fail
    refine (HRG.out _).mono ?_
    rintro e w2 ⟨rfl, hb2⟩
    have HOWN := Lib.hid (HOWN.out.below hb2)
    have HB := Lib.hid (HB.out.trans (hb2.mono (Nat.le_of_lt HLT.out)))
    have HLT := Lib.hid (Nat.lt_of_lt_of_le HLT.out hb2.size)
    have HR := Lib.hid (HR.out.below hb2)
    clear hb2
    clear k1 k3
    have k2 := HR.out.2 2 _ rfl
    go_wp2_with fail
    refine (HS2.out _).mono ?_
    rintro e w3 ⟨a2, n2, c2, rfl, hn2, hr2, hb3⟩
    have HOWN := Lib.hid (HOWN.out.below hb3)
    have HB := Lib.hid (HB.out.trans (hb3.mono (Nat.le_of_lt HLT.out)))
    have HLT := Lib.hid (Nat.lt_of_lt_of_le HLT.out hb3.size)
    have HR := Lib.hid (HR.out.below hb3)
    clear hb3
    clear k2
    rw [HC2.out] at hn2 hr2
    obtain rfl : n2 = 2 := hn2
    obtain ⟨b2, o2, rfl, hrow2⟩ := rowN hr2
    have HR2 := Lib.hid hrow2
    clear hrow2 hr2
    have j0 := HR2.out.c0
    go_wp2_with fail
    refine (HN3.out _).mono ?_
    rintro e w4 ⟨rfl, hb4⟩
    have HOWN := Lib.hid (HOWN.out.below hb4)
    have HB := Lib.hid (HB.out.trans (hb4.mono (Nat.le_of_lt HLT.out)))
    have HLT := Lib.hid (Nat.lt_of_lt_of_le HLT.out hb4.size)
    have HR := Lib.hid (HR.out.below hb4)
    have HR2 := Lib.hid (HR2.out.below hb4)
    clear hb4
    clear j0
    have j1 := HR2.out.2 1 _ rfl
    go_wp2_with fail
    refine (HN4.out _).mono ?_
    rintro e w5 ⟨rfl, hb5⟩
    have HOWN := Lib.hid (HOWN.out.below hb5)
    have HB := Lib.hid (HB.out.trans (hb5.mono (Nat.le_of_lt HLT.out)))
    have HLT := Lib.hid (Nat.lt_of_lt_of_le HLT.out hb5.size)
    have HR := Lib.hid (HR.out.below hb5)
    have HR2 := Lib.hid (HR2.out.below hb5)
    clear hb5
    clear j1
    have k4 := HR.out.2 4 _ rfl
    go_wp2_with fail
    refine (HN5.out _).mono ?_
    rintro e w6 ⟨rfl, hb6⟩
    have HOWN := Lib.hid (HOWN.out.below hb6)
    have HB := Lib.hid (HB.out.trans (hb6.mono (Nat.le_of_lt HLT.out)))
    have HLT := Lib.hid (Nat.lt_of_lt_of_le HLT.out hb6.size)
    have HR := Lib.hid (HR.out.below hb6)
    have HR2 := Lib.hid (HR2.out.below hb6)
    clear hb6
    clear k4
    have k0 := HR.out.c0
    go_upto_region 12 with (fail)
    obtain ⟨d0, d1, d2, d3, d4, d5, hba⟩ := reqNew w6 (⟨p0, fx, fy, v4, v3, v5⟩ : Req)
    have hlt6 : w6.heap.size < (w6.alloc (.cells #[.string p0, .int .i64 fx, .int .i64 fy, .int .i64 v4, .int .i64 v3, .int .i64 v5] 23)).heap.size := by simp
    obtain ⟨g6, hg6⟩ : ∃ g, w6.heap.size = g := ⟨_, rfl⟩
    have hba : Below w6.heap.size w6 (w6.alloc (.cells #[.string p0, .int .i64 fx, .int .i64 fy, .int .i64 v4, .int .i64 v3, .int .i64 v5] 23)) := hba
    change (w6.alloc (.cells #[.string p0, .int .i64 fx, .int .i64 fy, .int .i64 v4, .int .i64 v3, .int .i64 v5] 23)).cell? _ = some (.string p0) at d0
    change (w6.alloc (.cells #[.string p0, .int .i64 fx, .int .i64 fy, .int .i64 v4, .int .i64 v3, .int .i64 v5] 23)).cell? _ = some (.int .i64 fx) at d1
    change (w6.alloc (.cells #[.string p0, .int .i64 fx, .int .i64 fy, .int .i64 v4, .int .i64 v3, .int .i64 v5] 23)).cell? _ = some (.int .i64 fy) at d2
    change (w6.alloc (.cells #[.string p0, .int .i64 fx, .int .i64 fy, .int .i64 v4, .int .i64 v3, .int .i64 v5] 23)).cell? _ = some (.int .i64 v4) at d3
    change (w6.alloc (.cells #[.string p0, .int .i64 fx, .int .i64 fy, .int .i64 v4, .int .i64 v3, .int .i64 v5] 23)).cell? _ = some (.int .i64 v3) at d4
    change (w6.alloc (.cells #[.string p0, .int .i64 fx, .int .i64 fy, .int .i64 v4, .int .i64 v3, .int .i64 v5] 23)).cell? _ = some (.int .i64 v5) at d5
    generalize w6.alloc (.cells #[.string p0, .int .i64 fx, .int .i64 fy, .int .i64 v4, .int .i64 v3, .int .i64 v5] 23) = w7 at *
    rw [hg6] at d0 d1 d2 d3 d4 d5 hlt6
    have HBA := Lib.hid hba
    have HOWN := Lib.hid (HOWN.out.below hba)
    have HB := Lib.hid (HB.out.trans (hba.mono (Nat.le_of_lt HLT.out)))
    have HLT := Lib.hid (Nat.lt_of_lt_of_le HLT.out hba.size)
    have HR := Lib.hid (HR.out.below hba)
    have HR2 := Lib.hid (HR2.out.below hba)
    clear hba
    clear k0
    rw [hg6]
    have HG6 := Lib.hid hg6
    clear hg6
    clear d0 d1 d2 d3 d4 d5 hlt6
    have hown := HOWN.out
    have hle : w.heap.size ≤ w7.heap.size := Nat.le_of_lt HLT.out
    obtain ⟨nv, hnv⟩ : ∃ nv : Req, nv = Req.zero := ⟨_, rfl⟩
    have HY : Hid (([Req.zero] : List Req).set 0 Req.zero = [nv]) := Lib.hid (by rw [hnv]; rfl)
    have HN := Lib.hid hnv
    clear hnv
    go_wp2_with (with_reducible refine wpl_set Req.len (by decide) _ rfl 23 (.tmp 2) (.tmp 92) rfl w.heap.size 0 rfl _ rfl Req.zero rfl ?s1 (Req.one _) w.heap.size 23 1 1 0 [Req.zero] hown (by decide) rfl w.heap.size (Nat.le_refl _) ?s2 [nv] HY ?_)
    case s1 => kernel_rfl
    case s2 => omega
    intro wz hownz hbz _
    obtain ⟨c0, c1, c2, c3, c4, c5⟩ := Ow.sixth hownz
    have HE := Lib.hid (HB.out.trans hbz)
    clear hownz hbz hown hle
    go_wp2_with fail
    refine bodyPost_ret (v := .tuple #[.agg #[.string nv.star, .int .i64 nv.frm, .int .i64 nv.til, .int .i64 nv.want, .int .i64 nv.done, .int .i64 nv.prio], .bool false]) ((results_cell_tmp rfl _ _ _).trans ?r1) rfl ?_
    case r1 => go_simp
    exact ⟨(by rw [HX.out, HN.out]; try rfl), HE.out⟩
  | true =>
  cases b4 with
  | false =>
    have HX := Lib.hid (rdR_no (s := s) fun x hx => by
      rw [(hCD x hx).2, numV_some hx.parts.q4] at h4
      rw [← h4] at hb4
      cases hb4)
    clear hc hpart hd qa qb hCD hc2 h3 h4 h5 hv3 hv4 hv5 hb3 hb4 hb5
    go_enter Tryd.func4, Tryd.ntmps4
    go_wp2_with fail
    have hown := Ow.oneG Req.len w Req.zero 23
    have hb0 : Below w.heap.size w (w.alloc (.cells Req.zero.enc.toArray 23)) := (Below.refl _ _).alloc (Nat.le_refl _) _
    have hlt : w.heap.size < (w.alloc (.cells Req.zero.enc.toArray 23)).heap.size := by simp
    change Calls _ _ _ (w.alloc (.cells Req.zero.enc.toArray 23)) _
    generalize w.alloc (.cells Req.zero.enc.toArray 23) = w0 at *
    have HOWN := Lib.hid hown
    have HB := Lib.hid hb0
    have HLT := Lib.hid hlt
    clear hown hb0 hlt
    refine (HS.out _).mono ?_
    rintro e w1 ⟨a1, n1, c1, rfl, hn1, hr1, hb1⟩
    have HOWN := Lib.hid (HOWN.out.below hb1)
    have HB := Lib.hid (HB.out.trans (hb1.mono (Nat.le_of_lt HLT.out)))
    have HLT := Lib.hid (Nat.lt_of_lt_of_le HLT.out hb1.size)
    clear hb1
    rw [HC.out] at hn1 hr1
    obtain rfl : n1 = 5 := hn1
    obtain ⟨b, o, rfl, hrow⟩ := rowN hr1
    have HR := Lib.hid hrow
    clear hrow hr1
    have k3 := HR.out.2 3 _ rfl
    have k1 := HR.out.2 1 _ rfl
    go_wp2_with fail
    refine (HRG.out _).mono ?_
    rintro e w2 ⟨rfl, hb2⟩
    have HOWN := Lib.hid (HOWN.out.below hb2)
    have HB := Lib.hid (HB.out.trans (hb2.mono (Nat.le_of_lt HLT.out)))
    have HLT := Lib.hid (Nat.lt_of_lt_of_le HLT.out hb2.size)
    have HR := Lib.hid (HR.out.below hb2)
    clear hb2
    clear k1 k3
    have k2 := HR.out.2 2 _ rfl
    go_wp2_with fail
    refine (HS2.out _).mono ?_
    rintro e w3 ⟨a2, n2, c2, rfl, hn2, hr2, hb3⟩
    have HOWN := Lib.hid (HOWN.out.below hb3)
    have HB := Lib.hid (HB.out.trans (hb3.mono (Nat.le_of_lt HLT.out)))
    have HLT := Lib.hid (Nat.lt_of_lt_of_le HLT.out hb3.size)
    have HR := Lib.hid (HR.out.below hb3)
    clear hb3
    clear k2
    rw [HC2.out] at hn2 hr2
    obtain rfl : n2 = 2 := hn2
    obtain ⟨b2, o2, rfl, hrow2⟩ := rowN hr2
    have HR2 := Lib.hid hrow2
    clear hrow2 hr2
    have j0 := HR2.out.c0
    go_wp2_with fail
    refine (HN3.out _).mono ?_
    rintro e w4 ⟨rfl, hb4⟩
    have HOWN := Lib.hid (HOWN.out.below hb4)
    have HB := Lib.hid (HB.out.trans (hb4.mono (Nat.le_of_lt HLT.out)))
    have HLT := Lib.hid (Nat.lt_of_lt_of_le HLT.out hb4.size)
    have HR := Lib.hid (HR.out.below hb4)
    have HR2 := Lib.hid (HR2.out.below hb4)
    clear hb4
    clear j0
    have j1 := HR2.out.2 1 _ rfl
    go_wp2_with fail
    refine (HN4.out _).mono ?_
    rintro e w5 ⟨rfl, hb5⟩
    have HOWN := Lib.hid (HOWN.out.below hb5)
    have HB := Lib.hid (HB.out.trans (hb5.mono (Nat.le_of_lt HLT.out)))
    have HLT := Lib.hid (Nat.lt_of_lt_of_le HLT.out hb5.size)
    have HR := Lib.hid (HR.out.below hb5)
    have HR2 := Lib.hid (HR2.out.below hb5)
    clear hb5
    clear j1
    have k4 := HR.out.2 4 _ rfl
    go_wp2_with fail
    refine (HN5.out _).mono ?_
    rintro e w6 ⟨rfl, hb6⟩
    have HOWN := Lib.hid (HOWN.out.below hb6)
    have HB := Lib.hid (HB.out.trans (hb6.mono (Nat.le_of_lt HLT.out)))
    have HLT := Lib.hid (Nat.lt_of_lt_of_le HLT.out hb6.size)
    have HR := Lib.hid (HR.out.below hb6)
    have HR2 := Lib.hid (HR2.out.below hb6)
    clear hb6
    clear k4
    have k0 := HR.out.c0
    go_upto_region 12 with (fail)
    obtain ⟨d0, d1, d2, d3, d4, d5, hba⟩ := reqNew w6 (⟨p0, fx, fy, v4, v3, v5⟩ : Req)
    have hlt6 : w6.heap.size < (w6.alloc (.cells #[.string p0, .int .i64 fx, .int .i64 fy, .int .i64 v4, .int .i64 v3, .int .i64 v5] 23)).heap.size := by simp
    obtain ⟨g6, hg6⟩ : ∃ g, w6.heap.size = g := ⟨_, rfl⟩
    have hba : Below w6.heap.size w6 (w6.alloc (.cells #[.string p0, .int .i64 fx, .int .i64 fy, .int .i64 v4, .int .i64 v3, .int .i64 v5] 23)) := hba
    change (w6.alloc (.cells #[.string p0, .int .i64 fx, .int .i64 fy, .int .i64 v4, .int .i64 v3, .int .i64 v5] 23)).cell? _ = some (.string p0) at d0
    change (w6.alloc (.cells #[.string p0, .int .i64 fx, .int .i64 fy, .int .i64 v4, .int .i64 v3, .int .i64 v5] 23)).cell? _ = some (.int .i64 fx) at d1
    change (w6.alloc (.cells #[.string p0, .int .i64 fx, .int .i64 fy, .int .i64 v4, .int .i64 v3, .int .i64 v5] 23)).cell? _ = some (.int .i64 fy) at d2
    change (w6.alloc (.cells #[.string p0, .int .i64 fx, .int .i64 fy, .int .i64 v4, .int .i64 v3, .int .i64 v5] 23)).cell? _ = some (.int .i64 v4) at d3
    change (w6.alloc (.cells #[.string p0, .int .i64 fx, .int .i64 fy, .int .i64 v4, .int .i64 v3, .int .i64 v5] 23)).cell? _ = some (.int .i64 v3) at d4
    change (w6.alloc (.cells #[.string p0, .int .i64 fx, .int .i64 fy, .int .i64 v4, .int .i64 v3, .int .i64 v5] 23)).cell? _ = some (.int .i64 v5) at d5
    generalize w6.alloc (.cells #[.string p0, .int .i64 fx, .int .i64 fy, .int .i64 v4, .int .i64 v3, .int .i64 v5] 23) = w7 at *
    rw [hg6] at d0 d1 d2 d3 d4 d5 hlt6
    have HBA := Lib.hid hba
    have HOWN := Lib.hid (HOWN.out.below hba)
    have HB := Lib.hid (HB.out.trans (hba.mono (Nat.le_of_lt HLT.out)))
    have HLT := Lib.hid (Nat.lt_of_lt_of_le HLT.out hba.size)
    have HR := Lib.hid (HR.out.below hba)
    have HR2 := Lib.hid (HR2.out.below hba)
    clear hba
    clear k0
    rw [hg6]
    have HG6 := Lib.hid hg6
    clear hg6
    clear d0 d1 d2 d3 d4 d5 hlt6
    have hown := HOWN.out
    have hle : w.heap.size ≤ w7.heap.size := Nat.le_of_lt HLT.out
    obtain ⟨nv, hnv⟩ : ∃ nv : Req, nv = Req.zero := ⟨_, rfl⟩
    have HY : Hid (([Req.zero] : List Req).set 0 Req.zero = [nv]) := Lib.hid (by rw [hnv]; rfl)
    have HN := Lib.hid hnv
    clear hnv
    go_wp2_with (with_reducible refine wpl_set Req.len (by decide) _ rfl 23 (.tmp 2) (.tmp 92) rfl w.heap.size 0 rfl _ rfl Req.zero rfl ?s1 (Req.one _) w.heap.size 23 1 1 0 [Req.zero] hown (by decide) rfl w.heap.size (Nat.le_refl _) ?s2 [nv] HY ?_)
    case s1 => kernel_rfl
    case s2 => omega
    intro wz hownz hbz _
    obtain ⟨c0, c1, c2, c3, c4, c5⟩ := Ow.sixth hownz
    have HE := Lib.hid (HB.out.trans hbz)
    clear hownz hbz hown hle
    go_wp2_with fail
    refine bodyPost_ret (v := .tuple #[.agg #[.string nv.star, .int .i64 nv.frm, .int .i64 nv.til, .int .i64 nv.want, .int .i64 nv.done, .int .i64 nv.prio], .bool false]) ((results_cell_tmp rfl _ _ _).trans ?r1) rfl ?_
    case r1 => go_simp
    exact ⟨(by rw [HX.out, HN.out]; try rfl), HE.out⟩
  | true =>
  cases b5 with
  | false =>
    have HX := Lib.hid (rdR_no (s := s) fun x hx => by
      rw [(hpart x hx).2.2.2.2, numV_some hx.parts.q5] at h5
      rw [← h5] at hb5
      cases hb5)
    clear hc hpart hd qa qb hCD hc2 h3 h4 h5 hv3 hv4 hv5 hb3 hb4 hb5
    go_enter Tryd.func4, Tryd.ntmps4
    go_wp2_with fail
    have hown := Ow.oneG Req.len w Req.zero 23
    have hb0 : Below w.heap.size w (w.alloc (.cells Req.zero.enc.toArray 23)) := (Below.refl _ _).alloc (Nat.le_refl _) _
    have hlt : w.heap.size < (w.alloc (.cells Req.zero.enc.toArray 23)).heap.size := by simp
    change Calls _ _ _ (w.alloc (.cells Req.zero.enc.toArray 23)) _
    generalize w.alloc (.cells Req.zero.enc.toArray 23) = w0 at *
    have HOWN := Lib.hid hown
    have HB := Lib.hid hb0
    have HLT := Lib.hid hlt
    clear hown hb0 hlt
    refine (HS.out _).mono ?_
    rintro e w1 ⟨a1, n1, c1, rfl, hn1, hr1, hb1⟩
    have HOWN := Lib.hid (HOWN.out.below hb1)
    have HB := Lib.hid (HB.out.trans (hb1.mono (Nat.le_of_lt HLT.out)))
    have HLT := Lib.hid (Nat.lt_of_lt_of_le HLT.out hb1.size)
    clear hb1
    rw [HC.out] at hn1 hr1
    obtain rfl : n1 = 5 := hn1
    obtain ⟨b, o, rfl, hrow⟩ := rowN hr1
    have HR := Lib.hid hrow
    clear hrow hr1
    have k3 := HR.out.2 3 _ rfl
    have k1 := HR.out.2 1 _ rfl
    go_wp2_with fail
    refine (HRG.out _).mono ?_
    rintro e w2 ⟨rfl, hb2⟩
    have HOWN := Lib.hid (HOWN.out.below hb2)
    have HB := Lib.hid (HB.out.trans (hb2.mono (Nat.le_of_lt HLT.out)))
    have HLT := Lib.hid (Nat.lt_of_lt_of_le HLT.out hb2.size)
    have HR := Lib.hid (HR.out.below hb2)
    clear hb2
    clear k1 k3
    have k2 := HR.out.2 2 _ rfl
    go_wp2_with fail
    refine (HS2.out _).mono ?_
    rintro e w3 ⟨a2, n2, c2, rfl, hn2, hr2, hb3⟩
    have HOWN := Lib.hid (HOWN.out.below hb3)
    have HB := Lib.hid (HB.out.trans (hb3.mono (Nat.le_of_lt HLT.out)))
    have HLT := Lib.hid (Nat.lt_of_lt_of_le HLT.out hb3.size)
    have HR := Lib.hid (HR.out.below hb3)
    clear hb3
    clear k2
    rw [HC2.out] at hn2 hr2
    obtain rfl : n2 = 2 := hn2
    obtain ⟨b2, o2, rfl, hrow2⟩ := rowN hr2
    have HR2 := Lib.hid hrow2
    clear hrow2 hr2
    have j0 := HR2.out.c0
    go_wp2_with fail
    refine (HN3.out _).mono ?_
    rintro e w4 ⟨rfl, hb4⟩
    have HOWN := Lib.hid (HOWN.out.below hb4)
    have HB := Lib.hid (HB.out.trans (hb4.mono (Nat.le_of_lt HLT.out)))
    have HLT := Lib.hid (Nat.lt_of_lt_of_le HLT.out hb4.size)
    have HR := Lib.hid (HR.out.below hb4)
    have HR2 := Lib.hid (HR2.out.below hb4)
    clear hb4
    clear j0
    have j1 := HR2.out.2 1 _ rfl
    go_wp2_with fail
    refine (HN4.out _).mono ?_
    rintro e w5 ⟨rfl, hb5⟩
    have HOWN := Lib.hid (HOWN.out.below hb5)
    have HB := Lib.hid (HB.out.trans (hb5.mono (Nat.le_of_lt HLT.out)))
    have HLT := Lib.hid (Nat.lt_of_lt_of_le HLT.out hb5.size)
    have HR := Lib.hid (HR.out.below hb5)
    have HR2 := Lib.hid (HR2.out.below hb5)
    clear hb5
    clear j1
    have k4 := HR.out.2 4 _ rfl
    go_wp2_with fail
    refine (HN5.out _).mono ?_
    rintro e w6 ⟨rfl, hb6⟩
    have HOWN := Lib.hid (HOWN.out.below hb6)
    have HB := Lib.hid (HB.out.trans (hb6.mono (Nat.le_of_lt HLT.out)))
    have HLT := Lib.hid (Nat.lt_of_lt_of_le HLT.out hb6.size)
    have HR := Lib.hid (HR.out.below hb6)
    have HR2 := Lib.hid (HR2.out.below hb6)
    clear hb6
    clear k4
    have k0 := HR.out.c0
    go_upto_region 12 with (fail)
    obtain ⟨d0, d1, d2, d3, d4, d5, hba⟩ := reqNew w6 (⟨p0, fx, fy, v4, v3, v5⟩ : Req)
    have hlt6 : w6.heap.size < (w6.alloc (.cells #[.string p0, .int .i64 fx, .int .i64 fy, .int .i64 v4, .int .i64 v3, .int .i64 v5] 23)).heap.size := by simp
    obtain ⟨g6, hg6⟩ : ∃ g, w6.heap.size = g := ⟨_, rfl⟩
    have hba : Below w6.heap.size w6 (w6.alloc (.cells #[.string p0, .int .i64 fx, .int .i64 fy, .int .i64 v4, .int .i64 v3, .int .i64 v5] 23)) := hba
    change (w6.alloc (.cells #[.string p0, .int .i64 fx, .int .i64 fy, .int .i64 v4, .int .i64 v3, .int .i64 v5] 23)).cell? _ = some (.string p0) at d0
    change (w6.alloc (.cells #[.string p0, .int .i64 fx, .int .i64 fy, .int .i64 v4, .int .i64 v3, .int .i64 v5] 23)).cell? _ = some (.int .i64 fx) at d1
    change (w6.alloc (.cells #[.string p0, .int .i64 fx, .int .i64 fy, .int .i64 v4, .int .i64 v3, .int .i64 v5] 23)).cell? _ = some (.int .i64 fy) at d2
    change (w6.alloc (.cells #[.string p0, .int .i64 fx, .int .i64 fy, .int .i64 v4, .int .i64 v3, .int .i64 v5] 23)).cell? _ = some (.int .i64 v4) at d3
    change (w6.alloc (.cells #[.string p0, .int .i64 fx, .int .i64 fy, .int .i64 v4, .int .i64 v3, .int .i64 v5] 23)).cell? _ = some (.int .i64 v3) at d4
    change (w6.alloc (.cells #[.string p0, .int .i64 fx, .int .i64 fy, .int .i64 v4, .int .i64 v3, .int .i64 v5] 23)).cell? _ = some (.int .i64 v5) at d5
    generalize w6.alloc (.cells #[.string p0, .int .i64 fx, .int .i64 fy, .int .i64 v4, .int .i64 v3, .int .i64 v5] 23) = w7 at *
    rw [hg6] at d0 d1 d2 d3 d4 d5 hlt6
    have HBA := Lib.hid hba
    have HOWN := Lib.hid (HOWN.out.below hba)
    have HB := Lib.hid (HB.out.trans (hba.mono (Nat.le_of_lt HLT.out)))
    have HLT := Lib.hid (Nat.lt_of_lt_of_le HLT.out hba.size)
    have HR := Lib.hid (HR.out.below hba)
    have HR2 := Lib.hid (HR2.out.below hba)
    clear hba
    clear k0
    rw [hg6]
    have HG6 := Lib.hid hg6
    clear hg6
    clear d0 d1 d2 d3 d4 d5 hlt6
    have hown := HOWN.out
    have hle : w.heap.size ≤ w7.heap.size := Nat.le_of_lt HLT.out
    obtain ⟨nv, hnv⟩ : ∃ nv : Req, nv = Req.zero := ⟨_, rfl⟩
    have HY : Hid (([Req.zero] : List Req).set 0 Req.zero = [nv]) := Lib.hid (by rw [hnv]; rfl)
    have HN := Lib.hid hnv
    clear hnv
    go_wp2_with (with_reducible refine wpl_set Req.len (by decide) _ rfl 23 (.tmp 2) (.tmp 92) rfl w.heap.size 0 rfl _ rfl Req.zero rfl ?s1 (Req.one _) w.heap.size 23 1 1 0 [Req.zero] hown (by decide) rfl w.heap.size (Nat.le_refl _) ?s2 [nv] HY ?_)
    case s1 => kernel_rfl
    case s2 => omega
    intro wz hownz hbz _
    obtain ⟨c0, c1, c2, c3, c4, c5⟩ := Ow.sixth hownz
    have HE := Lib.hid (HB.out.trans hbz)
    clear hownz hbz hown hle
    go_wp2_with fail
    refine bodyPost_ret (v := .tuple #[.agg #[.string nv.star, .int .i64 nv.frm, .int .i64 nv.til, .int .i64 nv.want, .int .i64 nv.done, .int .i64 nv.prio], .bool false]) ((results_cell_tmp rfl _ _ _).trans ?r1) rfl ?_
    case r1 => go_simp
    exact ⟨(by rw [HX.out, HN.out]; try rfl), HE.out⟩
  | true =>
  have q3 : NumQ C.data.toList v3 := by
    cases o3 with
    | none => cases hb3
    | some z => rw [← hv3]; exact numV_iff.1 h3
  have q4 : NumQ D.data.toList v4 := by
    cases o4 with
    | none => cases hb4
    | some z => rw [← hv4]; exact numV_iff.1 h4
  have q5 : NumQ p4.data.toList v5 := by
    cases o5 with
    | none => cases hb5
    | some z => rw [← hv5]; exact numV_iff.1 h5
  cases hrb : reqB (⟨p0, fx, fy, v4, v3, v5⟩ : Req) with
  | false =>
    have HX := Lib.hid (rdR_no (s := s) fun x hx => by
      have e : (⟨p0, fx, fy, v4, v3, v5⟩ : Req) = x := by
        obtain ⟨i0, i1, i2, i3, i4⟩ := hpart x hx
        obtain ⟨i5, i6⟩ := hCD x hx
        have hd2 := hd
        rw [i1, hx.parts.dots] at hd2
        injection hd2 with l0 l1
        injection l1 with _ l1
        injection l1 with l1 _
        rw [← l0] at qa
        rw [← l1] at qb
        rw [i5] at q3
        rw [i6] at q4
        rw [i4] at q5
        rw [qa.uniq hx.parts.q1, qb.uniq hx.parts.q2, q3.uniq hx.parts.q3, q4.uniq hx.parts.q4, q5.uniq hx.parts.q5, i0]
      rw [e, hx.1] at hrb
      cases hrb)
    have HRB := Lib.hid hrb
    clear hc hpart hd qa qb hCD hc2 h3 h4 h5 hv3 hv4 hv5 hb3 hb4 hb5 q3 q4 q5 hrb
    go_enter Tryd.func4, Tryd.ntmps4
    go_wp2_with fail
    have hown := Ow.oneG Req.len w Req.zero 23
    have hb0 : Below w.heap.size w (w.alloc (.cells Req.zero.enc.toArray 23)) := (Below.refl _ _).alloc (Nat.le_refl _) _
    have hlt : w.heap.size < (w.alloc (.cells Req.zero.enc.toArray 23)).heap.size := by simp
    change Calls _ _ _ (w.alloc (.cells Req.zero.enc.toArray 23)) _
    generalize w.alloc (.cells Req.zero.enc.toArray 23) = w0 at *
    have HOWN := Lib.hid hown
    have HB := Lib.hid hb0
    have HLT := Lib.hid hlt
    clear hown hb0 hlt
    refine (HS.out _).mono ?_
    rintro e w1 ⟨a1, n1, c1, rfl, hn1, hr1, hb1⟩
    have HOWN := Lib.hid (HOWN.out.below hb1)
    have HB := Lib.hid (HB.out.trans (hb1.mono (Nat.le_of_lt HLT.out)))
    have HLT := Lib.hid (Nat.lt_of_lt_of_le HLT.out hb1.size)
    clear hb1
    rw [HC.out] at hn1 hr1
    obtain rfl : n1 = 5 := hn1
    obtain ⟨b, o, rfl, hrow⟩ := rowN hr1
    have HR := Lib.hid hrow
    clear hrow hr1
    have k3 := HR.out.2 3 _ rfl
    have k1 := HR.out.2 1 _ rfl
    go_wp2_with fail
    refine (HRG.out _).mono ?_
    rintro e w2 ⟨rfl, hb2⟩
    have HOWN := Lib.hid (HOWN.out.below hb2)
    have HB := Lib.hid (HB.out.trans (hb2.mono (Nat.le_of_lt HLT.out)))
    have HLT := Lib.hid (Nat.lt_of_lt_of_le HLT.out hb2.size)
    have HR := Lib.hid (HR.out.below hb2)
    clear hb2
    clear k1 k3
    have k2 := HR.out.2 2 _ rfl
    go_wp2_with fail
    refine (HS2.out _).mono ?_
    rintro e w3 ⟨a2, n2, c2, rfl, hn2, hr2, hb3⟩
    have HOWN := Lib.hid (HOWN.out.below hb3)
    have HB := Lib.hid (HB.out.trans (hb3.mono (Nat.le_of_lt HLT.out)))
    have HLT := Lib.hid (Nat.lt_of_lt_of_le HLT.out hb3.size)
    have HR := Lib.hid (HR.out.below hb3)
    clear hb3
    clear k2
    rw [HC2.out] at hn2 hr2
    obtain rfl : n2 = 2 := hn2
    obtain ⟨b2, o2, rfl, hrow2⟩ := rowN hr2
    have HR2 := Lib.hid hrow2
    clear hrow2 hr2
    have j0 := HR2.out.c0
    go_wp2_with fail
    refine (HN3.out _).mono ?_
    rintro e w4 ⟨rfl, hb4⟩
    have HOWN := Lib.hid (HOWN.out.below hb4)
    have HB := Lib.hid (HB.out.trans (hb4.mono (Nat.le_of_lt HLT.out)))
    have HLT := Lib.hid (Nat.lt_of_lt_of_le HLT.out hb4.size)
    have HR := Lib.hid (HR.out.below hb4)
    have HR2 := Lib.hid (HR2.out.below hb4)
    clear hb4
    clear j0
    have j1 := HR2.out.2 1 _ rfl
    go_wp2_with fail
    refine (HN4.out _).mono ?_
    rintro e w5 ⟨rfl, hb5⟩
    have HOWN := Lib.hid (HOWN.out.below hb5)
    have HB := Lib.hid (HB.out.trans (hb5.mono (Nat.le_of_lt HLT.out)))
    have HLT := Lib.hid (Nat.lt_of_lt_of_le HLT.out hb5.size)
    have HR := Lib.hid (HR.out.below hb5)
    have HR2 := Lib.hid (HR2.out.below hb5)
    clear hb5
    clear j1
    have k4 := HR.out.2 4 _ rfl
    go_wp2_with fail
    refine (HN5.out _).mono ?_
    rintro e w6 ⟨rfl, hb6⟩
    have HOWN := Lib.hid (HOWN.out.below hb6)
    have HB := Lib.hid (HB.out.trans (hb6.mono (Nat.le_of_lt HLT.out)))
    have HLT := Lib.hid (Nat.lt_of_lt_of_le HLT.out hb6.size)
    have HR := Lib.hid (HR.out.below hb6)
    have HR2 := Lib.hid (HR2.out.below hb6)
    clear hb6
    clear k4
    have k0 := HR.out.c0
    go_upto_region 12 with (fail)
    obtain ⟨d0, d1, d2, d3, d4, d5, hba⟩ := reqNew w6 (⟨p0, fx, fy, v4, v3, v5⟩ : Req)
    have hlt6 : w6.heap.size < (w6.alloc (.cells #[.string p0, .int .i64 fx, .int .i64 fy, .int .i64 v4, .int .i64 v3, .int .i64 v5] 23)).heap.size := by simp
    obtain ⟨g6, hg6⟩ : ∃ g, w6.heap.size = g := ⟨_, rfl⟩
    have hba : Below w6.heap.size w6 (w6.alloc (.cells #[.string p0, .int .i64 fx, .int .i64 fy, .int .i64 v4, .int .i64 v3, .int .i64 v5] 23)) := hba
    change (w6.alloc (.cells #[.string p0, .int .i64 fx, .int .i64 fy, .int .i64 v4, .int .i64 v3, .int .i64 v5] 23)).cell? _ = some (.string p0) at d0
    change (w6.alloc (.cells #[.string p0, .int .i64 fx, .int .i64 fy, .int .i64 v4, .int .i64 v3, .int .i64 v5] 23)).cell? _ = some (.int .i64 fx) at d1
    change (w6.alloc (.cells #[.string p0, .int .i64 fx, .int .i64 fy, .int .i64 v4, .int .i64 v3, .int .i64 v5] 23)).cell? _ = some (.int .i64 fy) at d2
    change (w6.alloc (.cells #[.string p0, .int .i64 fx, .int .i64 fy, .int .i64 v4, .int .i64 v3, .int .i64 v5] 23)).cell? _ = some (.int .i64 v4) at d3
    change (w6.alloc (.cells #[.string p0, .int .i64 fx, .int .i64 fy, .int .i64 v4, .int .i64 v3, .int .i64 v5] 23)).cell? _ = some (.int .i64 v3) at d4
    change (w6.alloc (.cells #[.string p0, .int .i64 fx, .int .i64 fy, .int .i64 v4, .int .i64 v3, .int .i64 v5] 23)).cell? _ = some (.int .i64 v5) at d5
    generalize w6.alloc (.cells #[.string p0, .int .i64 fx, .int .i64 fy, .int .i64 v4, .int .i64 v3, .int .i64 v5] 23) = w7 at *
    rw [hg6] at d0 d1 d2 d3 d4 d5 hlt6
    have HBA := Lib.hid hba
    have HOWN := Lib.hid (HOWN.out.below hba)
    have HB := Lib.hid (HB.out.trans (hba.mono (Nat.le_of_lt HLT.out)))
    have HLT := Lib.hid (Nat.lt_of_lt_of_le HLT.out hba.size)
    have HR := Lib.hid (HR.out.below hba)
    have HR2 := Lib.hid (HR2.out.below hba)
    clear hba
    clear k0
    rw [hg6]
    have HG6 := Lib.hid hg6
    clear hg6
    have HD : Hid (∀ wq n, wq = w7.drewN n → g6 < wq.heap.size ∧ wq.cell? ⟨g6, 0, none⟩ = some (.string p0) ∧ wq.cell? ⟨g6, 1, none⟩ = some (.int .i64 fx) ∧ wq.cell? ⟨g6, 2, none⟩ = some (.int .i64 fy) ∧ wq.cell? ⟨g6, 3, none⟩ = some (.int .i64 v4) ∧ wq.cell? ⟨g6, 4, none⟩ = some (.int .i64 v3) ∧ wq.cell? ⟨g6, 5, none⟩ = some (.int .i64 v5)) := Lib.hid fun wq n hq => by
      have hb := below_drewN (Below.refl w7.heap.size w7) n
      rw [← hq] at hb
      exact ⟨Nat.lt_of_lt_of_le hlt6 hb.size, (hb.cell (p := ⟨g6, 0, none⟩) hlt6).trans d0, (hb.cell (p := ⟨g6, 1, none⟩) hlt6).trans d1, (hb.cell (p := ⟨g6, 2, none⟩) hlt6).trans d2, (hb.cell (p := ⟨g6, 3, none⟩) hlt6).trans d3, (hb.cell (p := ⟨g6, 4, none⟩) hlt6).trans d4, (hb.cell (p := ⟨g6, 5, none⟩) hlt6).trans d5⟩
    have HL := Lib.hid (l22One_any (⟨p0, fx, fy, v4, v3, v5⟩ : Req) g6 0 w7 (by show p0.size ≤ _; omega) d0 d1 d2 d3 d4 d5)
    rw [HRB.out] at HL
    clear d0 d1 d2 d3 d4 d5
    go_wp2_with fail
    refine (HL.out).mono ?_
    rintro e w8 ⟨rfl, nq, hq⟩
    have hb8 : Below w7.heap.size w7 w8 := by rw [hq]; exact below_drewN (Below.refl _ _) nq
    obtain ⟨hlt8, f0, f1, f2, f3, f4, f5⟩ := HD.out w8 nq hq
    clear hq
    have HOWN := Lib.hid (HOWN.out.below hb8)
    have HB := Lib.hid (HB.out.trans (hb8.mono (Nat.le_of_lt HLT.out)))
    have HLT := Lib.hid (Nat.lt_of_lt_of_le HLT.out hb8.size)
    have HR := Lib.hid (HR.out.below hb8)
    have HR2 := Lib.hid (HR2.out.below hb8)
    clear hb8
    clear f0 f1 f2 f3 f4 f5
    have hown := HOWN.out
    have hle : w.heap.size ≤ w8.heap.size := Nat.le_of_lt HLT.out
    obtain ⟨nv, hnv⟩ : ∃ nv : Req, nv = Req.zero := ⟨_, rfl⟩
    have HY : Hid (([Req.zero] : List Req).set 0 Req.zero = [nv]) := Lib.hid (by rw [hnv]; rfl)
    have HN := Lib.hid hnv
    clear hnv
    go_wp2_with (with_reducible refine wpl_set Req.len (by decide) _ rfl 23 (.tmp 2) (.tmp 92) rfl w.heap.size 0 rfl _ rfl Req.zero rfl ?s1 (Req.one _) w.heap.size 23 1 1 0 [Req.zero] hown (by decide) rfl w.heap.size (Nat.le_refl _) ?s2 [nv] HY ?_)
    case s1 => kernel_rfl
    case s2 => omega
    intro wz hownz hbz _
    obtain ⟨c0, c1, c2, c3, c4, c5⟩ := Ow.sixth hownz
    have HE := Lib.hid (HB.out.trans hbz)
    clear hownz hbz hown hle
    go_wp2_with fail
    refine bodyPost_ret (v := .tuple #[.agg #[.string nv.star, .int .i64 nv.frm, .int .i64 nv.til, .int .i64 nv.want, .int .i64 nv.done, .int .i64 nv.prio], .bool false]) ((results_cell_tmp rfl _ _ _).trans ?r1) rfl ?_
    case r1 => go_simp
    exact ⟨(by rw [HX.out, HN.out]; try rfl), HE.out⟩
  | true =>
    have HX := Lib.hid (rdR_yes (s := s) (x := ⟨p0, fx, fy, v4, v3, v5⟩) (RdQ.of_spec hc hd hc2 qa qb q3 q4 q5 hrb))
    have HRB := Lib.hid hrb
    clear hc hpart hd qa qb hCD hc2 h3 h4 h5 hv3 hv4 hv5 hb3 hb4 hb5 q3 q4 q5 hrb
    go_enter Tryd.func4, Tryd.ntmps4
    go_wp2_with fail
    have hown := Ow.oneG Req.len w Req.zero 23
    have hb0 : Below w.heap.size w (w.alloc (.cells Req.zero.enc.toArray 23)) := (Below.refl _ _).alloc (Nat.le_refl _) _
    have hlt : w.heap.size < (w.alloc (.cells Req.zero.enc.toArray 23)).heap.size := by simp
    change Calls _ _ _ (w.alloc (.cells Req.zero.enc.toArray 23)) _
    generalize w.alloc (.cells Req.zero.enc.toArray 23) = w0 at *
    have HOWN := Lib.hid hown
    have HB := Lib.hid hb0
    have HLT := Lib.hid hlt
    clear hown hb0 hlt
    refine (HS.out _).mono ?_
    rintro e w1 ⟨a1, n1, c1, rfl, hn1, hr1, hb1⟩
    have HOWN := Lib.hid (HOWN.out.below hb1)
    have HB := Lib.hid (HB.out.trans (hb1.mono (Nat.le_of_lt HLT.out)))
    have HLT := Lib.hid (Nat.lt_of_lt_of_le HLT.out hb1.size)
    clear hb1
    rw [HC.out] at hn1 hr1
    obtain rfl : n1 = 5 := hn1
    obtain ⟨b, o, rfl, hrow⟩ := rowN hr1
    have HR := Lib.hid hrow
    clear hrow hr1
    have k3 := HR.out.2 3 _ rfl
    have k1 := HR.out.2 1 _ rfl
    go_wp2_with fail
    refine (HRG.out _).mono ?_
    rintro e w2 ⟨rfl, hb2⟩
    have HOWN := Lib.hid (HOWN.out.below hb2)
    have HB := Lib.hid (HB.out.trans (hb2.mono (Nat.le_of_lt HLT.out)))
    have HLT := Lib.hid (Nat.lt_of_lt_of_le HLT.out hb2.size)
    have HR := Lib.hid (HR.out.below hb2)
    clear hb2
    clear k1 k3
    have k2 := HR.out.2 2 _ rfl
    go_wp2_with fail
    refine (HS2.out _).mono ?_
    rintro e w3 ⟨a2, n2, c2, rfl, hn2, hr2, hb3⟩
    have HOWN := Lib.hid (HOWN.out.below hb3)
    have HB := Lib.hid (HB.out.trans (hb3.mono (Nat.le_of_lt HLT.out)))
    have HLT := Lib.hid (Nat.lt_of_lt_of_le HLT.out hb3.size)
    have HR := Lib.hid (HR.out.below hb3)
    clear hb3
    clear k2
    rw [HC2.out] at hn2 hr2
    obtain rfl : n2 = 2 := hn2
    obtain ⟨b2, o2, rfl, hrow2⟩ := rowN hr2
    have HR2 := Lib.hid hrow2
    clear hrow2 hr2
    have j0 := HR2.out.c0
    go_wp2_with fail
    refine (HN3.out _).mono ?_
    rintro e w4 ⟨rfl, hb4⟩
    have HOWN := Lib.hid (HOWN.out.below hb4)
    have HB := Lib.hid (HB.out.trans (hb4.mono (Nat.le_of_lt HLT.out)))
    have HLT := Lib.hid (Nat.lt_of_lt_of_le HLT.out hb4.size)
    have HR := Lib.hid (HR.out.below hb4)
    have HR2 := Lib.hid (HR2.out.below hb4)
    clear hb4
    clear j0
    have j1 := HR2.out.2 1 _ rfl
    go_wp2_with fail
    refine (HN4.out _).mono ?_
    rintro e w5 ⟨rfl, hb5⟩
    have HOWN := Lib.hid (HOWN.out.below hb5)
    have HB := Lib.hid (HB.out.trans (hb5.mono (Nat.le_of_lt HLT.out)))
    have HLT := Lib.hid (Nat.lt_of_lt_of_le HLT.out hb5.size)
    have HR := Lib.hid (HR.out.below hb5)
    have HR2 := Lib.hid (HR2.out.below hb5)
    clear hb5
    clear j1
    have k4 := HR.out.2 4 _ rfl
    go_wp2_with fail
    refine (HN5.out _).mono ?_
    rintro e w6 ⟨rfl, hb6⟩
    have HOWN := Lib.hid (HOWN.out.below hb6)
    have HB := Lib.hid (HB.out.trans (hb6.mono (Nat.le_of_lt HLT.out)))
    have HLT := Lib.hid (Nat.lt_of_lt_of_le HLT.out hb6.size)
    have HR := Lib.hid (HR.out.below hb6)
    have HR2 := Lib.hid (HR2.out.below hb6)
    clear hb6
    clear k4
    have k0 := HR.out.c0
    go_upto_region 12 with (fail)
    obtain ⟨d0, d1, d2, d3, d4, d5, hba⟩ := reqNew w6 (⟨p0, fx, fy, v4, v3, v5⟩ : Req)
    have hlt6 : w6.heap.size < (w6.alloc (.cells #[.string p0, .int .i64 fx, .int .i64 fy, .int .i64 v4, .int .i64 v3, .int .i64 v5] 23)).heap.size := by simp
    obtain ⟨g6, hg6⟩ : ∃ g, w6.heap.size = g := ⟨_, rfl⟩
    have hba : Below w6.heap.size w6 (w6.alloc (.cells #[.string p0, .int .i64 fx, .int .i64 fy, .int .i64 v4, .int .i64 v3, .int .i64 v5] 23)) := hba
    change (w6.alloc (.cells #[.string p0, .int .i64 fx, .int .i64 fy, .int .i64 v4, .int .i64 v3, .int .i64 v5] 23)).cell? _ = some (.string p0) at d0
    change (w6.alloc (.cells #[.string p0, .int .i64 fx, .int .i64 fy, .int .i64 v4, .int .i64 v3, .int .i64 v5] 23)).cell? _ = some (.int .i64 fx) at d1
    change (w6.alloc (.cells #[.string p0, .int .i64 fx, .int .i64 fy, .int .i64 v4, .int .i64 v3, .int .i64 v5] 23)).cell? _ = some (.int .i64 fy) at d2
    change (w6.alloc (.cells #[.string p0, .int .i64 fx, .int .i64 fy, .int .i64 v4, .int .i64 v3, .int .i64 v5] 23)).cell? _ = some (.int .i64 v4) at d3
    change (w6.alloc (.cells #[.string p0, .int .i64 fx, .int .i64 fy, .int .i64 v4, .int .i64 v3, .int .i64 v5] 23)).cell? _ = some (.int .i64 v3) at d4
    change (w6.alloc (.cells #[.string p0, .int .i64 fx, .int .i64 fy, .int .i64 v4, .int .i64 v3, .int .i64 v5] 23)).cell? _ = some (.int .i64 v5) at d5
    generalize w6.alloc (.cells #[.string p0, .int .i64 fx, .int .i64 fy, .int .i64 v4, .int .i64 v3, .int .i64 v5] 23) = w7 at *
    rw [hg6] at d0 d1 d2 d3 d4 d5 hlt6
    have HBA := Lib.hid hba
    have HOWN := Lib.hid (HOWN.out.below hba)
    have HB := Lib.hid (HB.out.trans (hba.mono (Nat.le_of_lt HLT.out)))
    have HLT := Lib.hid (Nat.lt_of_lt_of_le HLT.out hba.size)
    have HR := Lib.hid (HR.out.below hba)
    have HR2 := Lib.hid (HR2.out.below hba)
    clear hba
    clear k0
    rw [hg6]
    have HG6 := Lib.hid hg6
    clear hg6
    have HD : Hid (∀ wq n, wq = w7.drewN n → g6 < wq.heap.size ∧ wq.cell? ⟨g6, 0, none⟩ = some (.string p0) ∧ wq.cell? ⟨g6, 1, none⟩ = some (.int .i64 fx) ∧ wq.cell? ⟨g6, 2, none⟩ = some (.int .i64 fy) ∧ wq.cell? ⟨g6, 3, none⟩ = some (.int .i64 v4) ∧ wq.cell? ⟨g6, 4, none⟩ = some (.int .i64 v3) ∧ wq.cell? ⟨g6, 5, none⟩ = some (.int .i64 v5)) := Lib.hid fun wq n hq => by
      have hb := below_drewN (Below.refl w7.heap.size w7) n
      rw [← hq] at hb
      exact ⟨Nat.lt_of_lt_of_le hlt6 hb.size, (hb.cell (p := ⟨g6, 0, none⟩) hlt6).trans d0, (hb.cell (p := ⟨g6, 1, none⟩) hlt6).trans d1, (hb.cell (p := ⟨g6, 2, none⟩) hlt6).trans d2, (hb.cell (p := ⟨g6, 3, none⟩) hlt6).trans d3, (hb.cell (p := ⟨g6, 4, none⟩) hlt6).trans d4, (hb.cell (p := ⟨g6, 5, none⟩) hlt6).trans d5⟩
    have HL := Lib.hid (l22One_any (⟨p0, fx, fy, v4, v3, v5⟩ : Req) g6 0 w7 (by show p0.size ≤ _; omega) d0 d1 d2 d3 d4 d5)
    rw [HRB.out] at HL
    clear d0 d1 d2 d3 d4 d5
    go_wp2_with fail
    refine (HL.out).mono ?_
    rintro e w8 ⟨rfl, nq, hq⟩
    have hb8 : Below w7.heap.size w7 w8 := by rw [hq]; exact below_drewN (Below.refl _ _) nq
    obtain ⟨hlt8, f0, f1, f2, f3, f4, f5⟩ := HD.out w8 nq hq
    clear hq
    have HOWN := Lib.hid (HOWN.out.below hb8)
    have HB := Lib.hid (HB.out.trans (hb8.mono (Nat.le_of_lt HLT.out)))
    have HLT := Lib.hid (Nat.lt_of_lt_of_le HLT.out hb8.size)
    have HR := Lib.hid (HR.out.below hb8)
    have HR2 := Lib.hid (HR2.out.below hb8)
    clear hb8
    have hown := HOWN.out
    have hle : w.heap.size ≤ w8.heap.size := Nat.le_of_lt HLT.out
    obtain ⟨nv, hnv⟩ : ∃ nv : Req, nv = (⟨p0, fx, fy, v4, v3, v5⟩ : Req) := ⟨_, rfl⟩
    have HY : Hid (([Req.zero] : List Req).set 0 (⟨p0, fx, fy, v4, v3, v5⟩ : Req) = [nv]) := Lib.hid (by rw [hnv]; rfl)
    have HN := Lib.hid hnv
    clear hnv
    go_wp2_with (with_reducible refine wpl_set Req.len (by decide) _ rfl 23 (.tmp 2) (.tmp 93) rfl w.heap.size 0 rfl _ rfl (⟨p0, fx, fy, v4, v3, v5⟩ : Req) rfl ?s1 (Req.one _) w.heap.size 23 1 1 0 [Req.zero] hown (by decide) rfl w.heap.size (Nat.le_refl _) ?s2 [nv] HY ?_)
    case s1 => kernel_rfl
    case s2 => omega
    intro wz hownz hbz _
    obtain ⟨c0, c1, c2, c3, c4, c5⟩ := Ow.sixth hownz
    have HE := Lib.hid (HB.out.trans hbz)
    clear hownz hbz hown hle
    go_wp2_with fail
    refine bodyPost_ret (v := .tuple #[.agg #[.string nv.star, .int .i64 nv.frm, .int .i64 nv.til, .int .i64 nv.want, .int .i64 nv.done, .int .i64 nv.prio], .bool true]) ((results_cell_tmp rfl _ _ _).trans ?r1) rfl ?_
    case r1 => go_simp
    exact ⟨(by rw [HX.out, HN.out]; try rfl), HE.out⟩
end Go.Proofs.YtdpmdifdnneinaaDoor
