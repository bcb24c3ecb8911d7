/-
  EndangeredVolumes: the indices of the volumes with the fewest copies.
-/
import Derived.Test.YtfgpfnbogpikiaaVolAt
import Derived.Test.YtfgpfnbogpikiaaMin
namespace Go.Proofs.Ytfgpfnbogpikiaa
open Go.RowKit
set_option maxRecDepth 100000

def lstF (m : Int) (x : Vol) : Int := if 0 < x.cop then min m x.cop else m
def lst (m : Int) (vs : List Vol) : Int := vs.foldl lstF m
theorem lst_snoc (m : Int) (vs : List Vol) (k : Nat) (x : Vol) (h : vs.take (k + 1) = vs.take k ++ [x]) : lst m (vs.take (k + 1)) = lstF (lst m (vs.take k)) x := by
  rw [h, lst, lst, List.foldl_append]; rfl
theorem lst_le (m : Int) : ∀ (vs : List Vol), lst m vs ≤ m ∧ ∀ x ∈ vs, 0 < x.cop → lst m vs ≤ x.cop
  | [] => by simp [lst]
  | v :: vs => by
    have h := lst_le (lstF m v) vs
    have hv : lstF m v ≤ m ∧ (0 < v.cop → lstF m v ≤ v.cop) := by unfold lstF; split <;> constructor <;> intros <;> omega
    show lst (lstF m v) vs ≤ m ∧ _
    refine ⟨by omega, fun x hx hp => ?_⟩
    rcases List.mem_cons.1 hx with rfl | hx
    · show lst (lstF m _) vs ≤ _
      have := hv.2 hp; omega
    · exact h.2 x hx hp
theorem lst_min (m : Int) : ∀ (vs : List Vol) (m' : Int), m' ≤ m → lst m' vs = min m' (lst m vs)
  | [], m', h => by simp [lst]; omega
  | v :: vs, m', h => by
    show lst (lstF m' v) vs = min m' (lst (lstF m v) vs)
    by_cases hc : 0 < v.cop
    · have e1 : lstF m' v = min m' v.cop := by simp [lstF, hc]
      have e2 : lstF m v = min m v.cop := by simp [lstF, hc]
      rw [e1, e2, lst_min (min m v.cop) vs (min m' v.cop) (by omega)]
      have := (lst_le (min m v.cop) vs).1
      omega
    · have e1 : lstF m' v = m' := by simp [lstF, hc]
      have e2 : lstF m v = m := by simp [lstF, hc]
      rw [e1, e2, lst_min m vs m' h]
theorem volB_cop {x : Vol} (h : volB x = true) : 0 ≤ x.cop ∧ x.cop ≤ 5 := by
  simp only [volB, Bool.and_eq_true] at h
  exact inB_iff.1 h.2.2.2.2
theorem volsB_at {vs : List Vol} {i : Nat} {x : Vol} (h : volsB vs = true) (hx : vs[i]? = some x) : volB x = true := by
  have hi := (List.getElem?_eq_some_iff.1 hx).1
  cases hv : volB x with
  | true => rfl
  | false => rw [volsB_bad hi (okV_bad hx hv)] at h; cases h
def endL (m : Int) (vs : List Vol) : List Int := if volsB vs = true then whereL vs.length (atP vs fun x => decide (x.cop = lst m vs)) else []
def endC (vs : List Vol) : Int := if volsB vs = true then 0 else 1
theorem endL_same (vs : List Vol) : endL 5 vs = endL 6 vs := by
  unfold endL
  split
  case isFalse => rfl
  case isTrue hv =>
    refine whereL_congr fun i hi => ?_
    have hx : vs[i]? = some vs[i] := by simp [hi]
    rw [atP_eq hx, atP_eq hx]
    have h1 := volB_cop (volsB_at hv hx)
    have h2 := lst_min 6 vs 5 (by omega)
    have h3 := lst_le 6 vs
    have h4 := h3.2 vs[i] (List.getElem_mem _)
    rw [h2]
    generalize vs[i] = x at *
    by_cases hp : 0 < x.cop
    · have := h4 hp
      congr 1
      apply propext
      omega
    · have h5 : lst 6 vs = 6 ∨ 0 < lst 6 vs := by
        right
        clear h1 h2 h3 h4 hp hv
        have : ∀ (vs : List Vol) (m : Int), 0 < m → 0 < lst m vs := by
          intro vs
          induction vs with
          | nil => intro m h; exact h
          | cons v vs ih =>
            intro m h
            refine ih _ ?_
            unfold lstF; split <;> omega
        exact this vs 6 (by omega)
      congr 1
      apply propext
      omega

section
variable (vs : List Vol) (a : Option Addr) (n c : Nat) (w : World) (hn : n ≤ 1048576) (hl : vs.length = n) (ho : ∀ v ∈ vs, Vol.Ok v) (hr : Rd Vol.enc 5 w a vs)
include hn hl ho hr

set_option maxHeartbeats 2000000 in
theorem specEnd : Calls Try.prog 32 #[.slice a n c] w fun e w' => ∃ a' n' c', e = .returned (.tuple #[.slice a' n' c', .int .i64 (endC vs)]) ∧ n' ≤ 1048576 ∧ Ow eI 1 w' w.heap.size 2 (.slice a' n' c') n' (endL 6 vs) ∧ Below w.heap.size w w' := by
  have HL := Lib.hid hl
  have HO := Lib.hid ho
  clear hl ho
  cases hv : volsB vs with
  | false =>
    have HV := Lib.hid hv
    clear hv
    go_enter Try.func32, Try.ntmps32
    go_wp2_with fail
    refine (l23Ok_lit vs _ a n c _ hn HL.out HO.out hr HV.out).mono ?_
    rintro e w1 ⟨rfl, hb⟩
    go_wp2_with fail
    go_ret2
    exact ⟨none, 0, 0, by rw [endC, HV.out]; rfl, by omega, by rw [endL, HV.out]; exact Ow.nil _ _ _, hb⟩
  | true =>
  have HV := Lib.hid hv
  clear hv
  go_enter Try.func32, Try.ntmps32
  go_wp2_with fail
  refine (l23Ok_lit vs _ a n c _ hn HL.out HO.out hr HV.out).mono ?_
  rintro e w1 ⟨rfl, hb⟩
  have hr1 := hr.below hb
  clear hr
  go_wp2_with fail
  go_loopw [4, 5] (fun m i wr => ∃ k : Nat, k ≤ n ∧ i = .int .i64 k ∧ m = .int .i64 (lst 6 (vs.take k)) ∧ w1 = wr) (fun _ i _ => n - (intOf i).toNat)
  case atStart => exact ⟨0, Nat.zero_le _, rfl, rfl, rfl⟩
  case round =>
    obtain ⟨k, hk, rfl, rfl, rfl⟩ := hrel
    by_cases hlt : k < n
    · obtain ⟨x, hx, htk⟩ := take_snoc' vs k (by rw [HL.out]; omega)
      obtain ⟨b, o, rfl, hbl, hc⟩ := hr1 k x hx
      have c4 := hc 4 _ rfl
      have HS := Lib.hid (lst_snoc 6 vs k x htk)
      clear hc htk hx hr1
      obtain ⟨z, hz⟩ : ∃ z, lst 6 (vs.take k) = z := ⟨_, rfl⟩
      rw [hz] at HS ⊢
      clear hz
      by_cases hp : 0 < x.cop
      · go_wp2_with fail
        refine (l00Min_any _ _ _).mono ?_
        rintro e w2 ⟨rfl, rfl⟩
        have HQ : Hid (lst 6 (vs.take (k + 1)) = min z x.cop) := Lib.hid (by rw [HS.out]; simp [lstF, hp])
        generalize min z x.cop = y at *
        go_wp2_with fail
        go_roundw
        case rel => exact ⟨k + 1, by omega, by go_num, by rw [HQ.out], trivial⟩
        case measure => simp [intOf]; omega
      · have HQ : Hid (lst 6 (vs.take (k + 1)) = z) := Lib.hid (by rw [HS.out]; simp [lstF, hp])
        go_wp2_with fail
        go_roundw
        case rel => exact ⟨k + 1, by omega, by go_num, by rw [HQ.out], trivial⟩
        case measure => simp [intOf]; omega
    · obtain rfl : k = n := by omega
      have HM : Hid (lst 6 (vs.take k) = lst 6 vs) := Lib.hid (by rw [List.take_of_length_le (by rw [HL.out]; omega)])
      rw [HM.out]
      go_wp2_with fail
      have hr2 := hr1.below (below_built w1 2)
      generalize hzz : lst 6 vs = z at *
      have HZ := Lib.hid hzz
      clear hzz
      obtain ⟨p, hp⟩ : ∃ p, atP vs (fun x => decide (x.cop = z)) = p := ⟨_, rfl⟩
      have HP := Lib.hid hp
      clear hp
      go_loopw [6, 7] (fun o i wq => ∃ j m : Nat, ∃ a' c', j ≤ k ∧ m ≤ j ∧ i = .int .i64 j ∧ o = .slice a' m c' ∧ Ow eI 1 wq w1.heap.size 2 (.slice a' m c') m (whereL j p) ∧ Below w1.heap.size w1 wq) (fun _ i _ => k - (intOf i).toNat)
      case atStart => exact ⟨0, 0, _, _, Nat.zero_le _, Nat.le_refl _, rfl, rfl, Ow.built _ _ _ _, below_built _ _⟩
      case round =>
        obtain ⟨j, m, a', c', hj, hm, rfl, rfl, hown, hb1⟩ := hrel
        by_cases hlt2 : j < k
        · obtain ⟨x, hx, htk⟩ := take_snoc' vs j (by rw [HL.out]; omega)
          obtain ⟨b, o, rfl, hbl, hc⟩ := (hr1.below hb1) j x hx
          have c4 := hc 4 _ rfl
          clear hc htk
          have HPj : Hid (p j = decide (x.cop = z)) := Lib.hid (by rw [← HP.out]; exact atP_eq hx)
          clear hx hr1 hr2
          by_cases hq : x.cop = z
          · have d1 : (x.cop == z) = true := by rw [beq_iff_eq]; exact hq
            have HPt : Hid (p j = true) := Lib.hid (by rw [HPj.out]; simp [hq])
            clear hq
            have hY : Hid (whereL j p ++ [(j : Int)] = whereL (j + 1) p) := Lib.hid (whereL_yes HPt.out)
            have h63 : m + 1 ≤ maxLen := by unfold maxLen; omega
            have hby : (m + 1) * 8 ≤ 140737488355328 := by omega
            go_wp2_with (at_builtin; refine wpl_app eI_len (by decide) _ rfl (.tmp 44) (.tmp 46) 30 rfl 2 (.int .i64 0) 8 rfl Try.underlying30 infoI64 w1.heap.size _ m _ rfl wr _ 2 rfl hown (j : Int) rfl rfl (eI_one _) h63 hby hb1.size _ hY ?_)
            intro a2 c2 w2 hown2 hb3 _
            have hb5 := hb1.trans hb3
            go_wp2_with fail
            go_roundw
            case rel => exact ⟨j + 1, m + 1, a2, c2, by omega, by omega, by go_num, by simp, hown2, hb5⟩
            case measure => simp [intOf]; omega
          · have d1 : (x.cop == z) = false := by rw [beq_eq_false_iff_ne]; exact hq
            have HPt : Hid (p j = false) := Lib.hid (by rw [HPj.out]; simp [hq])
            clear hq
            rw [whereL_no HPt.out] at hown
            go_wp2_with fail
            go_roundw
            case rel => exact ⟨j + 1, m, a', c', by omega, by omega, by go_num, rfl, hown, hb1⟩
            case measure => simp [intOf]; omega
        · obtain rfl : j = k := by omega
          go_wp2_with fail
          go_ret2
          exact ⟨_, _, _, by rw [endC, HV.out]; rfl, by omega, by rw [endL, HV.out, HL.out, HZ.out, HP.out]; exact hown.mono hb.size, hb.trans (hb1.mono hb.size)⟩

set_option maxHeartbeats 2000000 in
omit ho hr hn hl in
theorem End1_any (z : Int) (w : World) (i : Nat) (x : Vol) (bl bt : Nat) (hi : i < n) (hx : vs[i]? = some x) (hr : Rd Vol.enc 5 w a vs) (ct : w.cell? ⟨bt, 0, none⟩ = some (.int .i64 z)) (cl : w.cell? ⟨bl, 0, none⟩ = some (.slice a n c)) :
    Calls Try.prog 71 #[.int .i64 i, .pointer (some ⟨bl, 0, none⟩), .pointer (some ⟨bt, 0, none⟩)] w fun e w' => e = .returned (.bool (decide (x.cop = z))) ∧ Below w.heap.size w w' := by
  obtain ⟨b, o, rfl, hbl, hc⟩ := hr i x hx
  have c4 := hc 4 _ rfl
  clear hc hx hr
  go_enter Try.func71, Try.ntmps71
  go_wp2_with fail
  go_quiet (fail)
  go_wp2_with fail
  go_ret
  exact ⟨by simp [BEq.beq], below_drewN (Below.refl _ _) nq⟩
set_option maxHeartbeats 2000000 in
theorem implEnd : Calls Try.prog 33 #[.slice a n c] w fun e w' => ∃ a' n' c', e = .returned (.tuple #[.slice a' n' c', .int .i64 (endC vs)]) ∧ n' ≤ 1048576 ∧ Ow eI 1 w' w.heap.size 2 (.slice a' n' c') n' (endL 5 vs) ∧ Below w.heap.size w w' := by
  have HL := Lib.hid hl
  have HO := Lib.hid ho
  clear hl ho
  go_enter Try.func33, Try.ntmps33
  go_wp2_with fail
  obtain ⟨cl, hb0, hs0⟩ := box1 w (.slice a n c) 25
  generalize w.alloc (.cells #[.slice a n c] 25) = w0 at *
  have hr0 := hr.below hb0
  clear hr
  cases hv : volsB vs with
  | false =>
    have HV := Lib.hid hv
    clear hv
    refine (validV_lit vs _ a n c _ hn HL.out HO.out hr0 HV.out).mono ?_
    rintro e w1 ⟨rfl, hb⟩
    go_wp2_with fail
    go_ret2
    exact ⟨none, 0, 0, by rw [endC, HV.out]; rfl, by omega, by rw [endL, HV.out]; exact Ow.nil _ _ _, hb0.trans (hb.mono (by omega))⟩
  | true =>
  have HV := Lib.hid hv
  clear hv
  refine (validV_lit vs _ a n c _ hn HL.out HO.out hr0 HV.out).mono ?_
  rintro e w1 ⟨rfl, hb⟩
  have hr1 := hr0.below hb
  have cl1 := (hb.cell (p := ⟨w.heap.size, 0, none⟩) (by show w.heap.size < _; omega)).trans cl
  have hb1 := hb0.trans (hb.mono (by omega))
  have hs1 : w.heap.size + 1 ≤ w1.heap.size := by have := hb.size; omega
  have HS := Lib.hid hs0
  clear hr0 cl hb hs0 hb0
  have hbq : Below w1.heap.size w1 (w1.alloc (.cells #[.int .i64 5] 2)) := (Below.refl _ _).alloc (Nat.le_refl _) _
  have hvq : (w1.alloc (.cells #[.int .i64 5] 2)).heap[w1.heap.size]? = some (.cells #[.int .i64 5] 2 (0, 0)) := heap_alloc_new w1 _
  have hclq : (w1.alloc (.cells #[.int .i64 5] 2)).cell? ⟨w.heap.size, 0, none⟩ = some (.slice a n c) := (hbq.cell (p := ⟨w.heap.size, 0, none⟩) (by show w.heap.size < _; omega)).trans cl1
  have HBq := Lib.hid hbq
  have HVq := Lib.hid hvq
  clear hbq hvq
  go_wp2_with fail
  clear hclq
  go_loopw [12] (fun i wr => ∃ k : Nat, k ≤ n ∧ i = .int .i64 k ∧ wr.heap[w1.heap.size]? = some (.cells #[.int .i64 (lst 5 (vs.take k))] 2 (0, 0)) ∧ Below w1.heap.size w1 wr) (fun i _ => n - (intOf i).toNat)
  case atStart => exact ⟨0, Nat.zero_le _, rfl, HVq.out, HBq.out⟩
  case round =>
    obtain ⟨k, hk, rfl, hv, hb⟩ := hrel
    by_cases hlt : k < n
    · obtain ⟨x, hx, htk⟩ := take_snoc' vs k (by rw [HL.out]; omega)
      obtain ⟨b, o, rfl, hbl, hc⟩ := (hr1.below hb) k x hx
      have c0 := hc 0 _ rfl
      rw [Nat.add_zero] at c0
      have c1 := hc 1 _ rfl
      have c2 := hc 2 _ rfl
      have c3 := hc 3 _ rfl
      have c4 := hc 4 _ rfl
      have HQ := Lib.hid (lst_snoc 5 vs k x htk)
      clear hc htk hx hr1
      obtain ⟨z, hz⟩ : ∃ z, lst 5 (vs.take k) = z := ⟨_, rfl⟩
      rw [hz] at HQ hv
      clear hz
      have hnew := At5.new wr x 40
      have hbx : Below wr.heap.size wr (wr.alloc (.cells #[.string x.name, .int .i64 x.frm, .int .i64 x.til, .int .i64 x.cnt, .int .i64 x.cop] 40)) := (Below.refl _ _).alloc (Nat.le_refl _) _
      have hvx : (wr.alloc (.cells #[.string x.name, .int .i64 x.frm, .int .i64 x.til, .int .i64 x.cnt, .int .i64 x.cop] 40)).heap[w1.heap.size]? = some (.cells #[.int .i64 z] 2 (0, 0)) := by rw [hbx.block _ (lt_of_block hv)]; exact hv
      have d1 := hnew.2.2.2.2.2
      have d2 := cell_of_one hvx
      have d3 := free_of_one hvx
      have HVX := Lib.hid hvx
      have HBX := Lib.hid (hb.trans (hbx.mono hb.size))
      have HSX : Hid (wr.heap.size < (wr.alloc (.cells #[.string x.name, .int .i64 x.frm, .int .i64 x.til, .int .i64 x.cnt, .int .i64 x.cop] 40)).heap.size) := Lib.hid (by simp)
      simp only [Nat.zero_add] at d1
      clear hvx hbx hnew
      by_cases hp : 0 < x.cop
      · by_cases hz : z ≤ x.cop
        · have HR : Hid (lst 5 (vs.take (k + 1)) = z) := Lib.hid (by rw [HQ.out]; simp [lstF, hp]; omega)
          have d4 : ¬ x.cop < z := by omega
          go_wp2_with fail
          go_roundw
          case rel => exact ⟨k + 1, by omega, by go_num, by rw [HR.out]; exact one_setCell HVX.out, HBX.out.setCell (Nat.le_refl _) _⟩
          case measure => simp [intOf]; omega
        · have HR : Hid (lst 5 (vs.take (k + 1)) = x.cop) := Lib.hid (by rw [HQ.out]; simp [lstF, hp]; omega)
          have d4 : x.cop < z := by omega
          go_wp2_with fail
          go_roundw
          case rel => exact ⟨k + 1, by omega, by go_num, by rw [HR.out]; exact one_setCell HVX.out, HBX.out.setCell (Nat.le_refl _) _⟩
          case measure => simp [intOf]; omega
      · have HR : Hid (lst 5 (vs.take (k + 1)) = z) := Lib.hid (by rw [HQ.out]; simp [lstF, hp])
        go_wp2_with fail
        go_roundw
        case rel => exact ⟨k + 1, by omega, by go_num, by rw [HR.out]; exact HVX.out, HBX.out⟩
        case measure => simp [intOf]; omega
    · obtain rfl : k = n := by omega
      have hz : lst 5 (vs.take k) = lst 5 vs := by rw [List.take_of_length_le (by rw [HL.out]; omega)]
      rw [hz] at hv
      clear hz
      have hcl : wr.cell? ⟨w.heap.size, 0, none⟩ = some (.slice a k c) := (hb.cell (p := ⟨w.heap.size, 0, none⟩) (by show w.heap.size < _; omega)).trans cl1
      have HVV := Lib.hid hv
      have HR := Lib.hid (hr1.below hb)
      clear hv hr1
      go_wp2_with fail
      refine (indicesWhere_any k (atP vs fun x => decide (x.cop = lst 5 vs)) _ _ _ hn ?c1 ?c2).mono ?_
      case c1 => intro args wx; kernel_rfl
      case c2 =>
        intro i w' hi hb'
        obtain ⟨x, hx, _⟩ := take_snoc' vs i (by rw [HL.out]; omega)
        rw [atP_eq hx]
        exact End1_any vs a k c (lst 5 vs) w' i x _ _ hi hx (HR.out.below hb') ((hb'.cell (p := ⟨w1.heap.size, 0, none⟩) (lt_of_block HVV.out)).trans (cell_of_one HVV.out)) ((hb'.cell (p := ⟨w.heap.size, 0, none⟩) (by show w.heap.size < _; have := hb.size; omega)).trans hcl)
      rintro e w2 ⟨a', n', c', rfl, hn', hown, hb2⟩
      go_wp2_with fail
      go_ret2
      have hs2 := hb.size
      exact ⟨a', n', c', by rw [endC, HV.out]; rfl, by omega, by rw [endL, HV.out, HL.out]; exact hown.mono (by omega), (hb1.trans (hb.mono (by omega))).trans (hb2.mono (by omega))⟩
end
end Go.Proofs.Ytfgpfnbogpikiaa
