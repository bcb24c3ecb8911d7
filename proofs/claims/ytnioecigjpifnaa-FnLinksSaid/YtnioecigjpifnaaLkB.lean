/-
  The lists of the fewest wrong links: the search.
-/
import Derived.Test.YtnioecigjpifnaaLkA
import Derived.Test.YtnioecigjpifnaaLk1
namespace Go.Proofs.Ytnioecigjpifnaa
open Go.RowKit
set_option maxRecDepth 100000
set_option linter.unusedVariables false
set_option linter.unusedSimpArgs false
theorem FewQ.uniq {n : Nat} {ls : List Lnk} {r r' : Nat} (h : FewQ n ls r) (h' : FewQ n ls r') : r = r' := by
  by_cases c : r < r'
  · exact absurd (h'.no r c) h.yes
  · by_cases d : r' < r
    · exact absurd (h.no r' d) h'.yes
    · omega
theorem GrA.mono {w : World} {B B' k : Nat} {v : Value} {rs : List GRow} (h : GrA w B v k rs) (hb : B' ≤ B) : GrA w B' v k rs := ⟨h.out.mono hb, fun r hr => (h.row r hr).mono hb⟩
/-- the number in a box -/
def boxN (v : Value) (w : World) : Nat := match v with
  | .pointer (some a) => (match w.cell? a with | some (.int _ x) => x.toNat | _ => 0)
  | _ => 0
theorem boxN_at {w : World} {b : Nat} {r : Nat} {t : TypeId} (h : CAt w b #[.int .i64 (r : Int)] t) : boxN (.pointer (some ⟨b, 0, none⟩)) w = r := by
  have := h.cell 0
  unfold boxN
  simp only [this]
  rfl
set_option maxHeartbeats 8000000 in
theorem wrong_any (n : Nat) (ls : List Lnk) (a : Option Addr) (m c : Nat) (w : World) (h1 : 1 ≤ n) (h10 : n ≤ 10) (hm : m ≤ 12) (hl : ls.length = m) (hok : ∀ l ∈ ls, LkOk n l) (hr : Rd Lnk.enc 3 w a ls) :
    Calls Try.prog 40 #[.int .i64 (n : Int), .slice a m c] w fun e w' => ∃ (a' : Option Addr) (k c' r : Nat) (rs : List GRow), e = .returned (.slice a' k c') ∧ rs.length = k ∧ FewQ n ls r ∧ rs.map GRow.xs = wrongL n ls r ∧ GrA w' w.heap.size (.slice a' k c') k rs ∧ Below w.heap.size w w' := by
  have HEX := Lib.hid (fun (B bn bl bs bo be r : Nat) => ext_any w.heap.size w B bn bl bs bo be r m c n a ls h1 h10 hm hl hok hr rfl)
  have HL := Lib.hid hl
  obtain ⟨hb2a, hb2b, hb2c, hb2d⟩ := bx2 w #[.int .i64 (n : Int)] #[.slice a m c] 2 36
  obtain ⟨hc1, hcb, hcs⟩ := bx1 ((w.alloc (.cells #[.int .i64 (n : Int)] 2)).alloc (.cells #[.slice a m c] 36)) #[.int .i64 0] 3
  rw [hb2d] at hc1
  have hS := hb2a.below hcb
  have hLb := hb2b.below hcb
  have hBB := hb2c.trans (hcb.mono (by omega))
  obtain ⟨w1, hw1⟩ : ∃ wx, ((w.alloc (.cells #[.int .i64 (n : Int)] 2)).alloc (.cells #[.slice a m c] 36)).alloc (.cells #[.int .i64 0] 3) = wx := ⟨_, rfl⟩
  rw [hw1] at hc1 hS hLb hBB
  obtain ⟨bs, hbs⟩ : ∃ gx, w.heap.size = gx := ⟨_, rfl⟩
  rw [hbs] at hS
  have hLb : CAt w1 (bs + 1) #[.slice a m c] 36 := by rw [← hbs]; exact hLb
  have hN0 : CAt w1 (bs + 2) #[.int .i64 ((0 : Nat) : Int)] 3 := by rw [← hbs]; exact hc1
  have HW1 := Lib.hid hw1
  have HBS := Lib.hid hbs
  have HS := Lib.hid hS
  have HLb := Lib.hid hLb
  have HN0 := Lib.hid hN0
  have HB1 := Lib.hid hBB
  clear hl hok hr hb2a hb2b hb2c hb2d hc1 hcb hcs hS hLb hBB hw1 hbs hN0
  go_enter Try.func40, Try.ntmps40
  go_wp2_with fail
  rw [HW1.out, HBS.out]
  clear HW1
  go_loopw [5] (fun pv wr => ∃ (r bn : Nat), pv = .pointer (some ⟨bn, 0, none⟩) ∧ r ≤ m ∧ Hid (∀ q, q < r → wrongL n ls q = []) ∧ Hid (CAt wr bn #[.int .i64 (r : Int)] 3) ∧ Hid (CAt wr bs #[.int .i64 (n : Int)] 2) ∧ Hid (CAt wr (bs + 1) #[.slice a m c] 36) ∧ Hid (Below bs w wr)) (fun pv wr => m + 1 - boxN pv wr)
  case atStart => exact ⟨0, bs + 2, rfl, Nat.zero_le _, Lib.hid (fun q hq => by omega), HN0, HS, HLb, Lib.hid (by rw [← HBS.out]; exact HB1.out)⟩
  case round =>
  obtain ⟨r, bn, rfl, hrm, HNO, HCN, HCS, HCL, HBr⟩ := hrel
  obtain ⟨wA, hwA⟩ : ∃ wx, wx = wr := ⟨_, rfl⟩
  subst hwA
  clear HS HLb HN0 HB1
  have hX := bx3 wA #[] #[.slice (some ⟨wA.heap.size, 0, none⟩) 0 0] #[.nilFunc] 39 71 94
  obtain ⟨hg0, hbo, hbe, hbb, hsz⟩ := hX
  have hOg := ((Ow.built GRow.enc 1 wA 39).below ((Below.refl _ _).alloc (Nat.le_refl _) (.cells #[.slice (some ⟨wA.heap.size, 0, none⟩) 0 0] 71))).below ((Below.refl _ _).alloc (Nat.le_refl _) (.cells #[.nilFunc] 94))
  obtain ⟨w3, hw3⟩ : ∃ wx, ((wA.alloc (.cells #[] 39)).alloc (.cells #[.slice (some ⟨wA.heap.size, 0, none⟩) 0 0] 71)).alloc (.cells #[.nilFunc] 94) = wx := ⟨_, rfl⟩
  rw [hw3] at hbo hbe hbb hsz hOg
  have HW3 := Lib.hid hw3
  have hbsA : bs ≤ wA.heap.size := by have h9 := HCS.out.lt; omega
  have hnA := HCN.out.lt
  have hlA := HCL.out.lt
  clear hw3 hg0
  go_upto_region 5 with (fail)
  rw [HW3.out]
  obtain ⟨be, hbE⟩ : ∃ x, wA.heap.size + 1 + 1 = x := ⟨_, rfl⟩
  rw [show wA.heap.size + 2 = be from hbE] at hbe
  rw [hbE]
  obtain ⟨bo, hbO⟩ : ∃ x, wA.heap.size + 1 = x := ⟨_, rfl⟩
  rw [hbO] at hbo
  rw [hbO]
  obtain ⟨g, hg⟩ : ∃ x, wA.heap.size = x := ⟨_, rfl⟩
  rw [hg] at hbo hOg
  rw [hg]
  have c3 : w3.cell? ⟨be, 0, none⟩ = some .nilFunc := hbe.cell 0
  have f3 : w3.frozen? ⟨be, 0, none⟩ = false := hbe.free 0
  have hcf : (store ⟨be, 0, none⟩ (.func (.func 60) #[] #[.pointer (some ⟨bn, 0, none⟩), .pointer (some ⟨bs + 1, 0, none⟩), .pointer (some ⟨bs, 0, none⟩), .pointer (some ⟨bo, 0, none⟩), .pointer (some ⟨be, 0, none⟩)])).run Try.prog w3 = .ok PUnit.unit (w3.setCell ⟨be, 0, none⟩ (.func (.func 60) #[] #[.pointer (some ⟨bn, 0, none⟩), .pointer (some ⟨bs + 1, 0, none⟩), .pointer (some ⟨bs, 0, none⟩), .pointer (some ⟨bo, 0, none⟩), .pointer (some ⟨be, 0, none⟩)])) := by
    rw [run_store Try.prog w3 _ _ _ rfl]
    simp [stored, c3, f3]
  have hof : True := trivial
  have hbe2 := hbe.set 0 (.func (.func 60) #[] #[.pointer (some ⟨bn, 0, none⟩), .pointer (some ⟨bs + 1, 0, none⟩), .pointer (some ⟨bs, 0, none⟩), .pointer (some ⟨bo, 0, none⟩), .pointer (some ⟨be, 0, none⟩)])
  have hn4 := (HCN.out.below hbb).setNe (show bn ≠ be by omega) 0 (.func (.func 60) #[] #[.pointer (some ⟨bn, 0, none⟩), .pointer (some ⟨bs + 1, 0, none⟩), .pointer (some ⟨bs, 0, none⟩), .pointer (some ⟨bo, 0, none⟩), .pointer (some ⟨be, 0, none⟩)])
  have hs4 := (HCS.out.below hbb).setNe (show bs ≠ be by omega) 0 (.func (.func 60) #[] #[.pointer (some ⟨bn, 0, none⟩), .pointer (some ⟨bs + 1, 0, none⟩), .pointer (some ⟨bs, 0, none⟩), .pointer (some ⟨bo, 0, none⟩), .pointer (some ⟨be, 0, none⟩)])
  have hl4 := (HCL.out.below hbb).setNe (show bs + 1 ≠ be by omega) 0 (.func (.func 60) #[] #[.pointer (some ⟨bn, 0, none⟩), .pointer (some ⟨bs + 1, 0, none⟩), .pointer (some ⟨bs, 0, none⟩), .pointer (some ⟨bo, 0, none⟩), .pointer (some ⟨be, 0, none⟩)])
  have ho4 := hbo.setNe (show bo ≠ be by omega) 0 (.func (.func 60) #[] #[.pointer (some ⟨bn, 0, none⟩), .pointer (some ⟨bs + 1, 0, none⟩), .pointer (some ⟨bs, 0, none⟩), .pointer (some ⟨bo, 0, none⟩), .pointer (some ⟨be, 0, none⟩)])
  have hg4 := hOg.setOtherL (g := be) (by simp [Value.ownBlock]; omega) 0 (.func (.func 60) #[] #[.pointer (some ⟨bn, 0, none⟩), .pointer (some ⟨bs + 1, 0, none⟩), .pointer (some ⟨bs, 0, none⟩), .pointer (some ⟨bo, 0, none⟩), .pointer (some ⟨be, 0, none⟩)])
  have hb4 := (HBr.out.trans (hbb.mono hbsA)).setCell (p := ⟨be, 0, none⟩) (show bs ≤ be by omega) (.func (.func 60) #[] #[.pointer (some ⟨bn, 0, none⟩), .pointer (some ⟨bs + 1, 0, none⟩), .pointer (some ⟨bs, 0, none⟩), .pointer (some ⟨bo, 0, none⟩), .pointer (some ⟨be, 0, none⟩)])
  have hbe2 : CAt (w3.setCell ⟨be, 0, none⟩ (.func (.func 60) #[] #[.pointer (some ⟨bn, 0, none⟩), .pointer (some ⟨bs + 1, 0, none⟩), .pointer (some ⟨bs, 0, none⟩), .pointer (some ⟨bo, 0, none⟩), .pointer (some ⟨be, 0, none⟩)])) be #[(.func (.func 60) #[] #[.pointer (some ⟨bn, 0, none⟩), .pointer (some ⟨bs + 1, 0, none⟩), .pointer (some ⟨bs, 0, none⟩), .pointer (some ⟨bo, 0, none⟩), .pointer (some ⟨be, 0, none⟩)])] 94 := hbe2
  obtain ⟨w4, hw4⟩ : ∃ wx, w3.setCell ⟨be, 0, none⟩ (.func (.func 60) #[] #[.pointer (some ⟨bn, 0, none⟩), .pointer (some ⟨bs + 1, 0, none⟩), .pointer (some ⟨bs, 0, none⟩), .pointer (some ⟨bo, 0, none⟩), .pointer (some ⟨be, 0, none⟩)]) = wx := ⟨_, rfl⟩
  have hsz4 : w4.heap.size = wA.heap.size + 3 := by rw [← hw4]; simp [World.setCell]; exact hsz
  rw [hw4] at hn4 hs4 hl4 ho4 hg4 hb4 hbe2
  have HW4 := Lib.hid hw4
  have HE1 : Hid (bn < g ∧ bs + 1 < g ∧ g < bo ∧ bo < be ∧ g < w4.heap.size ∧ bs ≤ g) := Lib.hid ⟨by omega, by omega, by omega, by omega, by omega, by omega⟩
  have hbE' := Lib.hid hbE
  have hbO' := Lib.hid hbO
  have hg' := Lib.hid hg
  clear hw4 hbo hbb hsz hOg hbe hbE hbO hg HW3
  go_upto_region 6 with (fail)
  rw [HW4.out]
  obtain ⟨k1, k2, k3, k4, k5, k6⟩ := HE1.out
  clear c3 f3 HW4 hsz4 hcf hof
  have HGRA : Hid (GrA w4 g (.slice (some ⟨g, 0, none⟩) 0 0) 0 []) := Lib.hid ⟨hg4, fun r hr => by cases hr⟩
  have HST : Hid (WSt w.heap.size w w4 g bn (bs + 1) bs bo be r m c n a (.slice (some ⟨g, 0, none⟩) 0 0) 0 []) := Lib.hid ⟨hn4, hl4, hs4, hbe2, ho4, HGRA.out, ⟨by omega, by omega, by omega, by omega⟩, by rw [HBS.out]; exact hb4, by rw [HBS.out]; omega, by rw [HBS.out]; omega⟩
  have HCALL := Lib.hid (HEX.out g bn (bs + 1) bs bo be r r [] 0 0 0 0 none (.slice (some ⟨g, 0, none⟩) 0 0) [] w4 rfl (by omega) (by omega) trivial (by
    have h9 := wrongL_len n ls r
    have h8 : 2 ^ ls.length ≤ 2 ^ 12 := Nat.pow_le_pow_right (by decide) (by rw [HL.out]; omega)
    have h7 : extL (lkOkB n ls) m r [] 0 = wrongL n ls r := by unfold wrongL; rw [HL.out]
    rw [h7]; omega) (Rd.nil _ _ _ _) (fun b o p e => by cases e) HST.out (by omega))
  have x0 : w4.cell? ⟨be, 0, none⟩ = some (.func (.func 60) #[] #[.pointer (some ⟨bn, 0, none⟩), .pointer (some ⟨bs + 1, 0, none⟩), .pointer (some ⟨bs, 0, none⟩), .pointer (some ⟨bo, 0, none⟩), .pointer (some ⟨be, 0, none⟩)]) := hbe2.cell 0
  clear hn4 hs4 hl4 ho4 hg4 hb4 hbe2 HGRA hbE' hbO' hg'
  go_wp2_with fail
  refine (HCALL.out).mono ?_
  rintro e w5 ⟨rfl, ov, q, rs, hS5, hM5, hT5⟩
  have HM5 : Hid (rs.map GRow.xs = wrongL n ls r) := Lib.hid (by rw [hM5, List.map_nil, List.nil_append]; unfold wrongL; rw [HL.out])
  have HS5 := Lib.hid hS5
  have hql := hS5.gr.out.len GRow.len (by decide)
  obtain ⟨ao, co, hov⟩ := hS5.gr.out.shape
  subst hov
  have z0 : w5.cell? ⟨bo, 0, none⟩ = some (.slice ao q co) := hS5.co.cell 0
  have z1 : w5.cell? ⟨bn, 0, none⟩ = some (.int .i64 (r : Int)) := hS5.cn.cell 0
  have HQL := Lib.hid hql
  clear hS5 hM5 hT5 hql HCALL x0
  by_cases hq0 : 0 < q
  · have dq : decide ((0 : Int) < (q : Int)) = true := decide_eq_true (by omega)
    have dqn : decide (0 < q) = true := decide_eq_true hq0
    have HFW : Hid (FewQ n ls r) := Lib.hid ⟨HNO.out, fun h => by
      have h9 := HM5.out
      rw [h] at h9
      have h8 := HQL.out
      rw [List.map_eq_nil_iff.1 h9] at h8
      simp at h8; omega⟩
    have HGR := Lib.hid (HS5.out.gr.mono (show w.heap.size ≤ g by rw [HBS.out]; exact k6))
    clear hq0
    go_wp2_with fail
    go_ret
    exact ⟨_, _, _, r, rs, rfl, HQL.out, HFW.out, HM5.out, HGR.out, HS5.out.b⟩
  · have dq : decide ((0 : Int) < (q : Int)) = false := decide_eq_false (by omega)
    have dqn : decide (0 < q) = false := decide_eq_false hq0
    have HN2 : Hid (∀ q, q < r + 1 → wrongL n ls q = []) := Lib.hid fun q2 hq2 => by
      by_cases h9 : q2 < r
      · exact HNO.out q2 h9
      · obtain rfl : q2 = r := by omega
        have h8 := HQL.out
        have h7 : rs = [] := List.eq_nil_of_length_eq_zero (by omega)
        rw [← HM5.out, h7]; rfl
    have hr1 : r + 1 ≤ m := by have h9 := few_bound HN2.out; rw [HL.out] at h9; exact h9
    have hb6 := (Below.refl w5.heap.size w5).alloc (Nat.le_refl _) (.cells #[.int .i64 ((r : Int) + 1)] 3)
    have hn7 : CAt (w5.alloc (.cells #[.int .i64 ((r : Int) + 1)] 3)) w5.heap.size #[.int .i64 ((r + 1 : Nat) : Int)] 3 := by
      rw [show ((r + 1 : Nat) : Int) = (r : Int) + 1 by omega]; exact CAt.new _ _ _
    have hn6 := CAt.new w5 #[.int .i64 (r : Int)] 3
    have hw5s : bs ≤ w5.heap.size := by have h9 := HS5.out.cs.lt; omega
    have hs7 := HS5.out.cs.below hb6
    have hl7 := HS5.out.cl.below hb6
    have hB5 := HS5.out.b
    rw [HBS.out] at hB5
    have hb7 := hB5.trans (hb6.mono hw5s)
    have t0 : (w5.alloc (.cells #[.int .i64 (r : Int)] 3)).cell? ⟨w5.heap.size, 0, none⟩ = some (.int .i64 (r : Int)) := hn6.cell 0
    have t1 : (w5.alloc (.cells #[.int .i64 (r : Int)] 3)).frozen? ⟨w5.heap.size, 0, none⟩ = false := hn6.free 0
    have i1 : IntKind.i64.wrap ((r : Int) + 1) = (r : Int) + 1 := IntWalk.i64_in _ (by omega)
    have HN7 := Lib.hid hn7
    have HS7 := Lib.hid hs7
    have HL7 := Lib.hid hl7
    have HB7 := Lib.hid hb7
    have HBX0 := boxN_at HCN.out
    clear hb6 hn6 hn7 hs7 hl7 hB5 hb7 hq0
    go_wp2_with fail
    go_roundw
    case rel => exact ⟨r + 1, w5.heap.size, rfl, hr1, HN2, HN7, HS7, HL7, HB7⟩
    case measure => simp only [HBX0]; rw [boxN_at HN7.out]; omega
end Go.Proofs.Ytnioecigjpifnaa
