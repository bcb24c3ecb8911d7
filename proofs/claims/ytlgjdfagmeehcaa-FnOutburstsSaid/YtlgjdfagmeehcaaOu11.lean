/-
  Alerts near to one another are joined.
-/
import Derived.Test.YtlgjdfagmeehcaaOu10
namespace Go.Proofs.Ytlgjdfagmeehcaa
open Go.RowKit
set_option maxRecDepth 100000
theorem Ow.setf {α : Type} {enc : α → List Value} {k : Nat} (hk : ∀ x, (enc x).length = k) {w : World} {base e g n cap : Nat} {xs : List α} (h : Ow enc k w base e (.slice (some ⟨g, 0, none⟩) n cap) n xs) (i j : Nat) (x x' : α) (u : Value) (hx : xs[i]? = some x) (hj : j < k) (he : (enc x).set j u = enc x') : Ow enc k (w.setCell ⟨g, i * k + j, none⟩ u) base e (.slice (some ⟨g, 0, none⟩) n cap) n (xs.set i x') := by
  have hfl := flat_setf hk xs i x x' j u hx hj he
  have hln := flat_len hk xs
  have hp := idx_lt (k := k) (List.getElem?_eq_some_iff.1 hx).1 hj
  have hset : (xs.flatMap enc).set (i * k + j) u = (xs.set i x').flatMap enc := by
    rw [← hfl, List.set_eq_take_append_cons_drop, if_pos (by omega)]
    simp
  refine ⟨by rw [← hset, List.length_set]; exact h.1, ?_⟩
  rcases h.2 with ⟨h1, _⟩ | ⟨g', cap', cur, h1, hb, hg, h2, h3, h4, h5⟩
  · simp at h1
  · simp only [Value.slice.injEq, Option.some.injEq, Addr.mk.injEq, and_true, true_and] at h1
    obtain ⟨rfl, rfl⟩ := h1
    refine .inr ⟨g, cap, cur.setIfInBounds (i * k + j) u, rfl, hb, ?_, h2, h3, by simpa using h4, ?_⟩
    · simp [World.setCell, Array.getElem?_modify, hg]
    · rw [← hset, ← h5]
      simp only [Array.toList_setIfInBounds]
      apply List.ext_getElem?
      intro q
      simp only [List.getElem?_take, List.getElem?_set, List.length_take]
      have hlc : n * k ≤ cur.toList.length := by
        have := congrArg List.length h5
        have h6 := h.1
        simp only [List.length_take] at this
        omega
      by_cases hq : q < n * k
      · simp only [hq, if_true]
        by_cases hqe : i * k + j = q
        · simp only [hqe, if_true]
          rw [if_pos (by omega), if_pos (by omega)]
        · simp only [hqe, if_false]
      · simp only [hq, if_false]
        split
        · rename_i h7
          rw [if_neg (by omega)]
        · rfl
set_option maxHeartbeats 2000000 in
theorem l00MinJ_any (a b : Int) (w : World) : Calls Try.prog 104 #[.int .i64 a, .int .i64 b] w fun e w' => e = .returned (.int .i64 (min a b)) ∧ w = w' := by
  by_cases h : a < b
  · have HM : Hid (min a b = a) := Lib.hid (by omega)
    go_enter Try.func104, Try.ntmps104
    go_wp2
    go_ret
    exact ⟨by rw [HM.out]; rfl, rfl⟩
  · have HM : Hid (min a b = b) := Lib.hid (by omega)
    go_enter Try.func104, Try.ntmps104
    go_wp2
    go_ret
    exact ⟨by rw [HM.out]; rfl, rfl⟩
theorem jnN_bd {d : Int} {ls : List Alt} (h : ∀ (i : Nat) (a : Alt), ls[i]? = some a → -1 ≤ a.fin ∧ a.fin ≤ 10000000) : ∀ k, k ≤ ls.length → ∀ z ∈ jnN d ls k, -1 ≤ z.fin ∧ z.fin ≤ 10000000
  | 0, _ => by simp [jnN]
  | k + 1, hk => by
    obtain ⟨a, ha⟩ : ∃ z, ls[k]? = some z := ⟨_, List.getElem?_eq_getElem (by omega)⟩
    have ih := jnN_bd (d := d) h k (by omega)
    have hka := h k a ha
    rcases list_snoc (jnN d ls k) with hl | ⟨xs, z, hl⟩
    · rw [jnN_none ha hl]
      intro y hy
      rw [List.mem_singleton] at hy; subst hy; exact hka
    · by_cases hd : a.beg - z.fin ≤ d
      · rw [jnN_join ha hl hd]
        rw [hl] at ih
        intro y hy
        rw [List.mem_append, List.mem_singleton] at hy
        rcases hy with hy | rfl
        · exact ih y (by simp [hy])
        · exact hka
      · rw [jnN_new ha hl hd]
        rw [hl] at ih
        intro y hy
        rw [List.mem_append, List.mem_singleton] at hy
        rcases hy with hy | rfl
        · exact ih y hy
        · exact hka
theorem AOk.bd {ls : List Alt} (h : AOk ls) (i : Nat) (a : Alt) (ha : ls[i]? = some a) : (0 ≤ a.beg ∧ a.beg ≤ 10000000) ∧ -1 ≤ a.fin ∧ a.fin ≤ 10000000 := by
  obtain ⟨h1, _, _, h2⟩ := h.2 i a ha
  refine ⟨h1, ?_⟩
  unfold Ended at h2
  omega
theorem implJn_bad1 (ls : List Alt) (d : Int) (a : Option Addr) (n c : Nat) (w : World) (hn : n ≤ 1048576) (hl : ls.length = n) (hr : Rd Alt.enc 3 w a ls) (hb : ¬ AOkI ls) : Calls Try.prog 32 #[.slice a n c, .int .i64 d] w fun e w' => e = .returned (.tuple #[.slice none 0 0, .int .i64 1]) ∧ Below w.heap.size w w' := by
  have C1 := Lib.hid (areAlerts_any ls false a n c w hn hl hr (by simp [hb]))
  clear hl hr hb
  go_enter Try.func32, Try.ntmps32
  go_wp2_with fail
  refine (C1.out).mono ?_
  rintro e w1 ⟨rfl, hb1⟩
  have HB1 := Lib.hid (hb1)
  clear hb1
  go_wp2_with fail
  go_ret2
  exact ⟨rfl, HB1.out⟩
theorem implJn_bad2 (ls : List Alt) (d : Int) (a : Option Addr) (n c : Nat) (w : World) (hn : n ≤ 1048576) (hl : ls.length = n) (hr : Rd Alt.enc 3 w a ls) (hb : AOkI ls) (hd : inB d 0 10000000 = false) : Calls Try.prog 32 #[.slice a n c, .int .i64 d] w fun e w' => e = .returned (.tuple #[.slice none 0 0, .int .i64 2]) ∧ Below w.heap.size w w' := by
  have C1 := Lib.hid (areAlerts_any ls true a n c w hn hl hr (by simp [hb]))
  have HD := Lib.hid hd
  clear hl hr hb hd
  go_enter Try.func32, Try.ntmps32
  go_wp2_with fail
  refine (C1.out).mono ?_
  rintro e w1 ⟨rfl, hb1⟩
  have HB1 := Lib.hid (hb1)
  clear hb1
  go_wp2_with fail
  refine (in_lit _ _ _ _ _ HD.out).mono ?_
  rintro e wz ⟨rfl, rfl⟩
  go_wp2_with fail
  go_ret2
  exact ⟨rfl, HB1.out⟩
theorem specJn_bad1 (ls : List Alt) (d : Int) (a : Option Addr) (n c : Nat) (w : World) (hn : n ≤ 1048576) (hl : ls.length = n) (hr : Rd Alt.enc 3 w a ls) (hb : ¬ AOk ls) : Calls Try.prog 33 #[.slice a n c, .int .i64 d] w fun e w' => e = .returned (.tuple #[.slice none 0 0, .int .i64 1]) ∧ Below w.heap.size w w' := by
  have C1 := Lib.hid (l19List_any ls false a n c w hn hl hr (by simp [hb]))
  clear hl hr hb
  go_enter Try.func33, Try.ntmps33
  go_wp2_with fail
  refine (C1.out).mono ?_
  rintro e w1 ⟨rfl, hb1⟩
  have HB1 := Lib.hid (hb1)
  clear hb1
  go_wp2_with fail
  go_ret2
  exact ⟨rfl, HB1.out⟩
theorem specJn_bad2 (ls : List Alt) (d : Int) (a : Option Addr) (n c : Nat) (w : World) (hn : n ≤ 1048576) (hl : ls.length = n) (hr : Rd Alt.enc 3 w a ls) (hb : AOk ls) (hd : inB d 0 10000000 = false) : Calls Try.prog 33 #[.slice a n c, .int .i64 d] w fun e w' => e = .returned (.tuple #[.slice none 0 0, .int .i64 2]) ∧ Below w.heap.size w w' := by
  have C1 := Lib.hid (l19List_any ls true a n c w hn hl hr (by simp [hb]))
  have HD := Lib.hid hd
  clear hl hr hb hd
  go_enter Try.func33, Try.ntmps33
  go_wp2_with fail
  refine (C1.out).mono ?_
  rintro e w1 ⟨rfl, hb1⟩
  have HB1 := Lib.hid (hb1)
  clear hb1
  go_wp2_with fail
  refine (l00In_lit _ _ _ _ _ HD.out).mono ?_
  rintro e wz ⟨rfl, rfl⟩
  go_wp2_with fail
  go_ret2
  exact ⟨rfl, HB1.out⟩
theorem Ow.cellG3 {w : World} {base e g n cap i : Nat} {xs : List Alt} {x : Alt} (h : Ow Alt.enc 3 w base e (.slice (some ⟨g, 0, none⟩) n cap) n xs) (hi : i < n) (hx : xs[i]? = some x) (j : Nat) (hj : j < 3 := by decide) : w.cell? ⟨g, i * 3 + j, none⟩ = (Alt.enc x)[j]? := by
  rw [World.ownsRow.cellAt h (i * 3 + j) (idx_lt hi hj)]
  exact flat_get Alt.len xs i x j hx hj
theorem Ow.freeG {w : World} {base e g n cap : Nat} {xs : List Alt} (h : Ow Alt.enc 3 w base e (.slice (some ⟨g, 0, none⟩) n cap) n xs) (j : Nat) : w.frozen? ⟨g, j, none⟩ = false := World.ownsRow.frozenAt h j
set_option maxHeartbeats 8000000 in
theorem implJn_ok (ls : List Alt) (d : Int) (a : Option Addr) (n c : Nat) (w : World) (hn : n ≤ 1048576) (hl : ls.length = n) (hr : Rd Alt.enc 3 w a ls) (hb : AOk ls) (hd : inB d 0 10000000 = true) : Calls Try.prog 32 #[.slice a n c, .int .i64 d] w (AlT w (jnN d ls n)) := by
  have C1 := Lib.hid (areAlerts_any ls true a n c w hn hl hr (by simp [(AOk_iff ls).1 hb]))
  have HD := Lib.hid hd
  have HL := Lib.hid hl
  have HR := Lib.hid hr
  have HAB := Lib.hid hb.bd
  have hd2 := inB_iff.1 hd
  have hn50 : n ≤ 50 := hl ▸ hb.1
  clear hl hr hb hd
  go_enter Try.func32, Try.ntmps32
  go_wp2_with fail
  refine C1.out.mono ?_
  rintro e w1 ⟨rfl, hb1⟩
  have HB1 := Lib.hid hb1
  have hs1 : w.heap.size ≤ w1.heap.size := HB1.out.size
  clear hb1
  go_wp2_with fail
  refine (in_lit _ _ _ _ _ HD.out).mono ?_
  rintro e wz ⟨rfl, rfl⟩
  have HO0 := Lib.hid (Ow.built Alt.enc 3 w1 71)
  have HB0 : Hid (Below w1.heap.size w1 (w1.alloc (.cells #[] 71))) := Lib.hid (below_built w1 71)
  go_wp2_with fail
  go_loopw [6, 21] (fun out i wr => ∃ (k N : Nat) (a' : Option Addr) (c' : Nat), k ≤ n ∧ i = .int .i64 k ∧ out = .slice a' N c' ∧ N ≤ k ∧ Hid (Ow Alt.enc 3 wr w1.heap.size 71 (.slice a' N c') N (jnN d ls k)) ∧ Hid (Below w1.heap.size w1 wr)) (fun _ i _ => n - (intOf i).toNat)
  case atStart => exact ⟨0, 0, _, _, Nat.zero_le _, rfl, rfl, Nat.zero_le _, HO0, HB0⟩
  case round =>
    obtain ⟨k, N, a', c', hk, rfl, rfl, hN, HO, HB⟩ := hrel
    have hsz : w1.heap.size ≤ wr.heap.size := HB.out.size
    by_cases hlt : k < n
    · obtain ⟨x, hx⟩ : ∃ z, ls[k]? = some z := ⟨_, List.getElem?_eq_getElem (by rw [HL.out]; exact hlt)⟩
      have hxb := HAB.out k x hx
      obtain ⟨⟨x0, x1⟩, x2, x3⟩ := hxb
      obtain ⟨b1, o1, hab1, hbl1, hc1⟩ := ((HR.out.below HB1.out).below HB.out) k x hx
      have c0 := hc1 0 _ rfl
      have c1 := hc1 1 _ rfl
      have c2 := hc1 2 _ rfl
      rw [Nat.add_zero] at c0
      subst hab1
      have HX := Lib.hid hx
      have hki : (0 : Int) ≤ k := by omega
      have hkn : (k : Int) < n := by omega
      clear hc1 hx
      rcases list_snoc (jnN d ls k) with hlz | ⟨xs, z, hlz⟩
      · have HJ := Lib.hid (jnN_none (d := d) HX.out hlz)
        rw [hlz] at HO
        have hN0 : N = 0 := by have := HO.out.len Alt.len (by decide); simpa using this.symm
        subst hN0
        clear hlz
        have HCN := Lib.hid (CAt.new wr #[.int .i64 x.beg, .int .i64 x.fin, .int .i64 x.peak] 71)
        have HBX := Lib.hid ((Below.refl wr.heap.size wr).alloc (Nat.le_refl _) (.cells #[.int .i64 x.beg, .int .i64 x.fin, .int .i64 x.peak] 71))
        have HOA := Lib.hid (HO.out.below HBX.out)
        have HBA := Lib.hid (HB.out.alloc hsz (.cells #[.int .i64 x.beg, .int .i64 x.fin, .int .i64 x.peak] 71))
        obtain ⟨wA, hwA⟩ : ∃ wA, wr.alloc (.cells #[.int .i64 x.beg, .int .i64 x.fin, .int .i64 x.peak] 71) = wA := ⟨_, rfl⟩
        obtain ⟨gx, hgx⟩ : ∃ gx, wr.heap.size = gx := ⟨_, rfl⟩
        rw [hwA] at HCN HOA HBA
        rw [hgx] at HCN
        have HWA := Lib.hid hwA
        have HGX := Lib.hid hgx
        clear hwA hgx HBX
        go_upto_region 9 with (fail)
        rw [HWA.out, HGX.out]
        clear HWA HGX c0 c1 c2
        have e0 : wA.cell? ⟨gx, 0, none⟩ = some (.int .i64 x.beg) := HCN.out.cell 0
        have e1 : wA.cell? ⟨gx, 1, none⟩ = some (.int .i64 x.fin) := HCN.out.cell 1
        have e2 : wA.cell? ⟨gx, 2, none⟩ = some (.int .i64 x.peak) := HCN.out.cell 2
        go_wp2_with fail
        go_quiet (fail)
        have HB4 : Hid (Below w1.heap.size w1 (wA.drewN nq)) := Lib.hid (below_drewN HBA.out nq)
        have HO4 := Lib.hid (HOA.out.below (below_drewN (Below.refl wA.heap.size wA) nq))
        have HC4 := Lib.hid (HCN.out.below (below_drewN (Below.refl wA.heap.size wA) nq))
        obtain ⟨w4, hw4⟩ : ∃ wq, wA.drewN nq = wq := ⟨_, rfl⟩
        rw [hw4] at HB4 HO4 HC4 ⊢
        clear hw4 e0 e1 e2
        have e0 : w4.cell? ⟨gx, 0, none⟩ = some (.int .i64 x.beg) := HC4.out.cell 0
        have e1 : w4.cell? ⟨gx, 1, none⟩ = some (.int .i64 x.fin) := HC4.out.cell 1
        have e2 : w4.cell? ⟨gx, 2, none⟩ = some (.int .i64 x.peak) := HC4.out.cell 2
        have h63 : 0 + 1 ≤ maxLen := by unfold maxLen; omega
        have hby : (0 + 1) * 24 ≤ 140737488355328 := by omega
        obtain ⟨ys, hys⟩ : ∃ ys, [] ++ [(⟨x.beg, x.fin, x.peak⟩ : Alt)] = ys := ⟨_, rfl⟩
        have HYS := Lib.hid hys
        have hsz9 : w1.heap.size ≤ w4.heap.size := HB4.out.size
        clear hys
        go_wp2_with (at_builtin; refine wpl_app Alt.len (by decide) _ rfl (.tmp 60) (.tmp 62) 61 rfl 71 _ 24 rfl Try.underlying61 infoA w1.heap.size _ 0 _ rfl w4 _ _ rfl HO4.out (⟨x.beg, x.fin, x.peak⟩ : Alt) rfl rfl (Alt.one _) h63 hby hsz9 ys HYS ?_)
        intro a9 c9 w9 ho9 hb9 hs9
        have HO9 := Lib.hid ho9
        have HB9 := Lib.hid (HB4.out.trans hb9)
        clear ho9 hb9 h63 hby
        have HOZ : Hid (Ow Alt.enc 3 w9 w1.heap.size 71 (.slice a9 (0 + 1) c9) (0 + 1) (jnN d ls (k + 1))) := Lib.hid (by rw [HJ.out]; have h := HO9.out; rw [← HYS.out] at h; exact h)
        clear e0 e1 e2
        go_wp2_with fail
        go_roundw
        case rel => exact ⟨k + 1, 0 + 1, _, _, by omega, by go_num, rfl, by omega, HOZ, HB9⟩
        case measure => simp [intOf]; omega
      · have hne : True := trivial
        have hlen := HO.out.len Alt.len (by decide)
        have hzb := jnN_bd (d := d) (fun i a ha => (HAB.out i a ha).2) k (by rw [HL.out]; exact hk) z (by rw [hlz]; simp)
        obtain ⟨zf0, zf1⟩ := hzb
        rw [hlz] at hlen HO
        obtain ⟨m, rfl⟩ : ∃ m, N = m + 1 := ⟨xs.length, by rw [← hlen]; simp⟩
        have hxm : xs.length = m := by simpa using hlen
        obtain ⟨g, rfl, hg0, hg1⟩ := HO.out.at_ (by omega)
        have HXM := Lib.hid hxm
        have HZM : Hid ((xs ++ [z])[m]? = some z) := Lib.hid (by rw [← hxm]; simp)
        have HSETL : Hid (∀ y : Alt, (xs ++ [z]).set m y = xs ++ [y]) := Lib.hid fun y => by rw [← hxm]; simp
        have HLZ := Lib.hid hlz
        have hmm : m < m + 1 := Nat.lt_succ_self m
        have n0 : IntKind.i64.wrap (((m + 1 : Nat) : Int) - 1) = (m : Int) := by rw [show ((m + 1 : Nat) : Int) - 1 = (m : Int) by omega]; exact IntWalk.i64_in _ (by omega)
        have i1 : IntKind.i64.wrap (x.beg - z.fin) = x.beg - z.fin := IntWalk.i64_in _ (by omega)
        clear hlz hlen hxm
        have HCN := Lib.hid (CAt.new wr #[.int .i64 x.beg, .int .i64 x.fin, .int .i64 x.peak] 71)
        have HBX := Lib.hid ((Below.refl wr.heap.size wr).alloc (Nat.le_refl _) (.cells #[.int .i64 x.beg, .int .i64 x.fin, .int .i64 x.peak] 71))
        have HOA := Lib.hid (HO.out.below HBX.out)
        have HBA := Lib.hid (HB.out.alloc hsz (.cells #[.int .i64 x.beg, .int .i64 x.fin, .int .i64 x.peak] 71))
        obtain ⟨wA, hwA⟩ : ∃ wA, wr.alloc (.cells #[.int .i64 x.beg, .int .i64 x.fin, .int .i64 x.peak] 71) = wA := ⟨_, rfl⟩
        obtain ⟨gx, hgx⟩ : ∃ gx, wr.heap.size = gx := ⟨_, rfl⟩
        rw [hwA] at HCN HOA HBA
        rw [hgx] at HCN
        have HWA := Lib.hid hwA
        have HGX := Lib.hid hgx
        clear hwA hgx HBX
        go_upto_region 9 with (fail)
        rw [HWA.out, HGX.out]
        clear HWA HGX c0 c1 c2
        have e0 : wA.cell? ⟨gx, 0, none⟩ = some (.int .i64 x.beg) := HCN.out.cell 0
        have e1 : wA.cell? ⟨gx, 1, none⟩ = some (.int .i64 x.fin) := HCN.out.cell 1
        have e2 : wA.cell? ⟨gx, 2, none⟩ = some (.int .i64 x.peak) := HCN.out.cell 2
        have r0 : wA.cell? ⟨g, m * 3, none⟩ = some (.int .i64 z.beg) := HOA.out.cellG3 hmm HZM.out 0
        have r1 : wA.cell? ⟨g, m * 3 + 1, none⟩ = some (.int .i64 z.fin) := HOA.out.cellG3 hmm HZM.out 1
        have r2 : wA.cell? ⟨g, m * 3 + 2, none⟩ = some (.int .i64 z.peak) := HOA.out.cellG3 hmm HZM.out 2
        by_cases hdd : x.beg - z.fin ≤ d
        · have HJ := Lib.hid (jnN_join HX.out HLZ.out hdd)
          have d8 : decide (x.beg - z.fin ≤ d) = true := by simpa using hdd
          clear hdd
          go_wp2_with fail
          go_quiet (fail)
          have HB4 : Hid (Below w1.heap.size w1 (wA.drewN nq)) := Lib.hid (below_drewN HBA.out nq)
          have HO4 := Lib.hid (HOA.out.below (below_drewN (Below.refl wA.heap.size wA) nq))
          have HC4 := Lib.hid (HCN.out.below (below_drewN (Below.refl wA.heap.size wA) nq))
          obtain ⟨w4, hw4⟩ : ∃ wq, wA.drewN nq = wq := ⟨_, rfl⟩
          rw [hw4] at HB4 HO4 HC4 ⊢
          clear hw4 e0 e1 e2
          clear r0 r1 r2 d8 i1
          have e0 : w4.cell? ⟨gx, 0, none⟩ = some (.int .i64 x.beg) := HC4.out.cell 0
          have e1 : w4.cell? ⟨gx, 1, none⟩ = some (.int .i64 x.fin) := HC4.out.cell 1
          have e2 : w4.cell? ⟨gx, 2, none⟩ = some (.int .i64 x.peak) := HC4.out.cell 2
          have r0 : w4.cell? ⟨g, m * 3, none⟩ = some (.int .i64 z.beg) := HO4.out.cellG3 hmm HZM.out 0
          have r1 : w4.cell? ⟨g, m * 3 + 1, none⟩ = some (.int .i64 z.fin) := HO4.out.cellG3 hmm HZM.out 1
          have r2 : w4.cell? ⟨g, m * 3 + 2, none⟩ = some (.int .i64 z.peak) := HO4.out.cellG3 hmm HZM.out 2
          obtain ⟨P, hP⟩ : ∃ P, (if x.peak < z.peak then x.peak else z.peak) = P := ⟨_, rfl⟩
          have hmn : min z.peak x.peak = P := by rw [← hP]; split <;> omega
          rw [hmn] at HJ
          have HP := Lib.hid hP
          clear hmn
          have f1 := HO4.out.freeG (m * 3 + 1)
          have HO5 := Lib.hid (HO4.out.setf Alt.len m 1 z ⟨z.beg, x.fin, z.peak⟩ (.int .i64 x.fin) HZM.out (by decide) rfl)
          rw [HSETL.out] at HO5
          have HZ5 : Hid ((xs ++ [(⟨z.beg, x.fin, z.peak⟩ : Alt)])[m]? = some ⟨z.beg, x.fin, z.peak⟩) := Lib.hid (by rw [← HXM.out]; simp)
          have s2 : (w4.setCell ⟨g, m * 3 + 1, none⟩ (.int .i64 x.fin)).cell? ⟨g, m * 3 + 2, none⟩ = some (.int .i64 z.peak) := HO5.out.cellG3 hmm HZ5.out 2
          have f2 := HO5.out.freeG (m * 3 + 2)
          have HO6 := Lib.hid (HO5.out.setf Alt.len m 2 ⟨z.beg, x.fin, z.peak⟩ ⟨z.beg, x.fin, P⟩ (.int .i64 P) HZ5.out (by decide) rfl)
          have hS6 : (xs ++ [(⟨z.beg, x.fin, z.peak⟩ : Alt)]).set m ⟨z.beg, x.fin, P⟩ = xs ++ [⟨z.beg, x.fin, P⟩] := by rw [← HXM.out]; simp
          rw [hS6] at HO6
          have HB6 := Lib.hid ((HB4.out.setCell (p := ⟨g, m * 3 + 1, none⟩) hg0 (.int .i64 x.fin)).setCell (p := ⟨g, m * 3 + 2, none⟩) hg0 (.int .i64 P))
          clear hS6 hP
          go_upto_region 11 with (fail)
          go_region
          rw [HP.out]
          obtain ⟨w9, hw9⟩ : ∃ w9, ((w4.setCell ⟨g, m * 3 + 1, none⟩ (.int .i64 x.fin)).setCell ⟨g, m * 3 + 2, none⟩ (.int .i64 P)).drew = w9 := ⟨_, rfl⟩
          have HO9 := Lib.hid (HO6.out.below (Below.refl _ _).drew)
          have HB9 := Lib.hid HB6.out.drew
          rw [hw9] at HO9 HB9 ⊢
          have HOZ : Hid (Ow Alt.enc 3 w9 w1.heap.size 71 (.slice (some ⟨g, 0, none⟩) (m + 1) c') (m + 1) (jnN d ls (k + 1))) := Lib.hid (by rw [HJ.out]; exact HO9.out)
          clear hw9 e0 e1 e2 r0 r1 r2 f1 s2 f2
          go_wp2_with fail
          go_roundw
          case rel => exact ⟨k + 1, m + 1, _, _, by omega, by go_num, rfl, by omega, HOZ, HB9⟩
          case measure => simp [intOf]; omega
        · have HJ := Lib.hid (jnN_new HX.out HLZ.out hdd)
          have d8 : decide (x.beg - z.fin ≤ d) = false := by simpa using hdd
          clear hdd
          go_wp2_with fail
          go_quiet (fail)
          have HB4 : Hid (Below w1.heap.size w1 (wA.drewN nq)) := Lib.hid (below_drewN HBA.out nq)
          have HO4 := Lib.hid (HOA.out.below (below_drewN (Below.refl wA.heap.size wA) nq))
          have HC4 := Lib.hid (HCN.out.below (below_drewN (Below.refl wA.heap.size wA) nq))
          obtain ⟨w4, hw4⟩ : ∃ wq, wA.drewN nq = wq := ⟨_, rfl⟩
          rw [hw4] at HB4 HO4 HC4 ⊢
          clear hw4 e0 e1 e2
          clear r0 r1 r2 d8 i1
          have e0 : w4.cell? ⟨gx, 0, none⟩ = some (.int .i64 x.beg) := HC4.out.cell 0
          have e1 : w4.cell? ⟨gx, 1, none⟩ = some (.int .i64 x.fin) := HC4.out.cell 1
          have e2 : w4.cell? ⟨gx, 2, none⟩ = some (.int .i64 x.peak) := HC4.out.cell 2
          have h63 : (m + 1) + 1 ≤ maxLen := by unfold maxLen; omega
          have hby : ((m + 1) + 1) * 24 ≤ 140737488355328 := by omega
          obtain ⟨ys, hys⟩ : ∃ ys, (xs ++ [z]) ++ [(⟨x.beg, x.fin, x.peak⟩ : Alt)] = ys := ⟨_, rfl⟩
          have HYS := Lib.hid hys
          have hsz9 : w1.heap.size ≤ w4.heap.size := HB4.out.size
          clear hys
          go_wp2_with (at_builtin; refine wpl_app Alt.len (by decide) _ rfl (.tmp 60) (.tmp 62) 61 rfl 71 _ 24 rfl Try.underlying61 infoA w1.heap.size _ (m + 1) _ rfl w4 _ _ rfl HO4.out (⟨x.beg, x.fin, x.peak⟩ : Alt) rfl rfl (Alt.one _) h63 hby hsz9 ys HYS ?_)
          intro a9 c9 w9 ho9 hb9 hs9
          have HO9 := Lib.hid ho9
          have HB9 := Lib.hid (HB4.out.trans hb9)
          clear ho9 hb9 h63 hby
          have HOZ : Hid (Ow Alt.enc 3 w9 w1.heap.size 71 (.slice a9 (m + 1 + 1) c9) (m + 1 + 1) (jnN d ls (k + 1))) := Lib.hid (by rw [HJ.out]; have h := HO9.out; rw [← HYS.out] at h; exact h)
          clear e0 e1 e2
          go_wp2_with fail
          go_roundw
          case rel => exact ⟨k + 1, m + 1 + 1, _, _, by omega, by go_num, rfl, by omega, HOZ, HB9⟩
          case measure => simp [intOf]; omega
    · obtain rfl : k = n := by omega
      have HBE := Lib.hid (HB1.out.trans (HB.out.mono hs1))
      have HOE := Lib.hid (HO.out.mono hs1)
      go_wp2_with fail
      go_ret2
      exact ⟨a', N, c', rfl, HOE.out, HBE.out⟩
set_option maxHeartbeats 8000000 in
theorem specJn_ok (ls : List Alt) (d : Int) (a : Option Addr) (n c : Nat) (w : World) (hn : n ≤ 1048576) (hl : ls.length = n) (hr : Rd Alt.enc 3 w a ls) (hb : AOk ls) (hd : inB d 0 10000000 = true) : Calls Try.prog 33 #[.slice a n c, .int .i64 d] w (AlT w (jnN d ls n)) := by
  have C1 := Lib.hid (l19List_any ls true a n c w hn hl hr (by simp [hb]))
  have HD := Lib.hid hd
  have HL := Lib.hid hl
  have HR := Lib.hid hr
  have HAB := Lib.hid hb.bd
  have hd2 := inB_iff.1 hd
  have hn50 : n ≤ 50 := hl ▸ hb.1
  clear hl hr hb hd
  go_enter Try.func33, Try.ntmps33
  go_wp2_with fail
  refine C1.out.mono ?_
  rintro e w1 ⟨rfl, hb1⟩
  have HB1 := Lib.hid hb1
  have hs1 : w.heap.size ≤ w1.heap.size := HB1.out.size
  clear hb1
  go_wp2_with fail
  refine (l00In_lit _ _ _ _ _ HD.out).mono ?_
  rintro e wz ⟨rfl, rfl⟩
  have HO0 := Lib.hid (Ow.built Alt.enc 3 w1 71)
  have HB0 : Hid (Below w1.heap.size w1 (w1.alloc (.cells #[] 71))) := Lib.hid (below_built w1 71)
  go_wp2_with fail
  go_loopw [6, 7] (fun out i wr => ∃ (k N : Nat) (a' : Option Addr) (c' : Nat), k ≤ n ∧ i = .int .i64 k ∧ out = .slice a' N c' ∧ N ≤ k ∧ Hid (Ow Alt.enc 3 wr w1.heap.size 71 (.slice a' N c') N (jnN d ls k)) ∧ Hid (Below w1.heap.size w1 wr)) (fun _ i _ => n - (intOf i).toNat)
  case atStart => exact ⟨0, 0, _, _, Nat.zero_le _, rfl, rfl, Nat.zero_le _, HO0, HB0⟩
  case round =>
    obtain ⟨k, N, a', c', hk, rfl, rfl, hN, HO, HB⟩ := hrel
    have hsz : w1.heap.size ≤ wr.heap.size := HB.out.size
    by_cases hlt : k < n
    · obtain ⟨x, hx⟩ : ∃ z, ls[k]? = some z := ⟨_, List.getElem?_eq_getElem (by rw [HL.out]; exact hlt)⟩
      have hxb := HAB.out k x hx
      obtain ⟨⟨x0, x1⟩, x2, x3⟩ := hxb
      obtain ⟨b1, o1, hab1, hbl1, hc1⟩ := ((HR.out.below HB1.out).below HB.out) k x hx
      have c0 := hc1 0 _ rfl
      have c1 := hc1 1 _ rfl
      have c2 := hc1 2 _ rfl
      rw [Nat.add_zero] at c0
      subst hab1
      have HX := Lib.hid hx
      have hki : (0 : Int) ≤ k := by omega
      have hkn : (k : Int) < n := by omega
      clear hc1 hx
      rcases list_snoc (jnN d ls k) with hlz | ⟨xs, z, hlz⟩
      · have HJ := Lib.hid (jnN_none (d := d) HX.out hlz)
        rw [hlz] at HO
        have hN0 : N = 0 := by have := HO.out.len Alt.len (by decide); simpa using this.symm
        subst hN0
        clear hlz
        go_wp2_with fail
        go_quiet (fail)
        have HB4 : Hid (Below w1.heap.size w1 (wr.drewN nq)) := Lib.hid (below_drewN HB.out nq)
        have HO4 := Lib.hid (HO.out.below (below_drewN (Below.refl wr.heap.size wr) nq))
        have HRC : Hid (Rd Alt.enc 3 (wr.drewN nq) (some ⟨b1, o1, none⟩) ls) := Lib.hid (HR.out.below (HB1.out.trans (HB4.out.mono hs1)))
        obtain ⟨w4, hw4⟩ : ∃ wq, wr.drewN nq = wq := ⟨_, rfl⟩
        rw [hw4] at HB4 HO4 HRC ⊢
        have hbl4 : b1 < w4.heap.size := by rw [← hw4]; exact hbl1
        clear hw4 c0 c1 c2
        have HPC : Hid (∀ wq, Below w4.heap.size w4 wq → wq.cell? ⟨b1, o1 + k * 3, none⟩ = some (.int .i64 x.beg) ∧ wq.cell? ⟨b1, o1 + k * 3 + 1, none⟩ = some (.int .i64 x.fin) ∧ wq.cell? ⟨b1, o1 + k * 3 + 2, none⟩ = some (.int .i64 x.peak)) := Lib.hid fun wq hq => by
          obtain ⟨b4, o4, hab4, _, hc4⟩ := (HRC.out.below hq) k x HX.out
          simp only [Option.some.injEq, Addr.mk.injEq, and_true] at hab4
          obtain ⟨rfl, rfl⟩ := hab4
          exact ⟨hc4 0 _ rfl, hc4 1 _ rfl, hc4 2 _ rfl⟩
        obtain ⟨c0, c1, c2⟩ := HPC.out w4 (Below.refl _ _)
        have h63 : 0 + 1 ≤ maxLen := by unfold maxLen; omega
        have hby : (0 + 1) * 24 ≤ 140737488355328 := by omega
        obtain ⟨ys, hys⟩ : ∃ ys, [] ++ [(⟨x.beg, x.fin, x.peak⟩ : Alt)] = ys := ⟨_, rfl⟩
        have HYS := Lib.hid hys
        have hsz9 : w1.heap.size ≤ w4.heap.size := HB4.out.size
        clear hys
        go_wp2_with (at_builtin; refine wpl_app Alt.len (by decide) _ rfl (.tmp 68) (.tmp 73) 61 rfl 71 _ 24 rfl Try.underlying61 infoA w1.heap.size _ 0 _ rfl w4 _ _ rfl HO4.out (⟨x.beg, x.fin, x.peak⟩ : Alt) rfl rfl (Alt.one _) h63 hby hsz9 ys HYS ?_)
        intro a9 c9 w9 ho9 hb9 hs9
        have HO9 := Lib.hid ho9
        have HB9 := Lib.hid (HB4.out.trans hb9)
        clear ho9 hb9 h63 hby
        have HOZ : Hid (Ow Alt.enc 3 w9 w1.heap.size 71 (.slice a9 (0 + 1) c9) (0 + 1) (jnN d ls (k + 1))) := Lib.hid (by rw [HJ.out]; have h := HO9.out; rw [← HYS.out] at h; exact h)
        clear c0 c1 c2
        go_wp2_with fail
        go_roundw
        case rel => exact ⟨k + 1, 0 + 1, _, _, by omega, by go_num, rfl, by omega, HOZ, HB9⟩
        case measure => simp [intOf]; omega
      · have hne : True := trivial
        have hlen := HO.out.len Alt.len (by decide)
        have hzb := jnN_bd (d := d) (fun i a ha => (HAB.out i a ha).2) k (by rw [HL.out]; exact hk) z (by rw [hlz]; simp)
        obtain ⟨zf0, zf1⟩ := hzb
        rw [hlz] at hlen HO
        obtain ⟨m, rfl⟩ : ∃ m, N = m + 1 := ⟨xs.length, by rw [← hlen]; simp⟩
        have hxm : xs.length = m := by simpa using hlen
        obtain ⟨g, rfl, hg0, hg1⟩ := HO.out.at_ (by omega)
        have HXM := Lib.hid hxm
        have HZM : Hid ((xs ++ [z])[m]? = some z) := Lib.hid (by rw [← hxm]; simp)
        have HSETL : Hid (∀ y : Alt, (xs ++ [z]).set m y = xs ++ [y]) := Lib.hid fun y => by rw [← hxm]; simp
        have HLZ := Lib.hid hlz
        have hmm : m < m + 1 := Nat.lt_succ_self m
        have n0 : IntKind.i64.wrap (((m + 1 : Nat) : Int) - 1) = (m : Int) := by rw [show ((m + 1 : Nat) : Int) - 1 = (m : Int) by omega]; exact IntWalk.i64_in _ (by omega)
        have i1 : IntKind.i64.wrap (x.beg - z.fin) = x.beg - z.fin := IntWalk.i64_in _ (by omega)
        clear hlz hlen hxm
        have HGB := Lib.hid hg0
        have d9 : decide ((0 : Int) < ((m + 1 : Nat) : Int)) = true := decide_eq_true (by omega)
        have r0 : wr.cell? ⟨g, m * 3, none⟩ = some (.int .i64 z.beg) := HO.out.cellG3 hmm HZM.out 0
        have r1 : wr.cell? ⟨g, m * 3 + 1, none⟩ = some (.int .i64 z.fin) := HO.out.cellG3 hmm HZM.out 1
        have r2 : wr.cell? ⟨g, m * 3 + 2, none⟩ = some (.int .i64 z.peak) := HO.out.cellG3 hmm HZM.out 2
        by_cases hdd : x.beg - z.fin ≤ d
        · have HJ := Lib.hid (jnN_join HX.out HLZ.out hdd)
          have d8 : decide (x.beg - z.fin ≤ d) = true := by simpa using hdd
          clear hdd
          go_wp2_with fail
          go_quiet (fail)
          have HB4 : Hid (Below w1.heap.size w1 (wr.drewN nq)) := Lib.hid (below_drewN HB.out nq)
          have HO4 := Lib.hid (HO.out.below (below_drewN (Below.refl wr.heap.size wr) nq))
          have HRC : Hid (Rd Alt.enc 3 (wr.drewN nq) (some ⟨b1, o1, none⟩) ls) := Lib.hid (HR.out.below (HB1.out.trans (HB4.out.mono hs1)))
          obtain ⟨w4, hw4⟩ : ∃ wq, wr.drewN nq = wq := ⟨_, rfl⟩
          rw [hw4] at HB4 HO4 HRC ⊢
          have hbl4 : b1 < w4.heap.size := by rw [← hw4]; exact hbl1
          clear hw4 c0 c1 c2
          have HPC : Hid (∀ wq, Below w4.heap.size w4 wq → wq.cell? ⟨b1, o1 + k * 3, none⟩ = some (.int .i64 x.beg) ∧ wq.cell? ⟨b1, o1 + k * 3 + 1, none⟩ = some (.int .i64 x.fin) ∧ wq.cell? ⟨b1, o1 + k * 3 + 2, none⟩ = some (.int .i64 x.peak)) := Lib.hid fun wq hq => by
            obtain ⟨b4, o4, hab4, _, hc4⟩ := (HRC.out.below hq) k x HX.out
            simp only [Option.some.injEq, Addr.mk.injEq, and_true] at hab4
            obtain ⟨rfl, rfl⟩ := hab4
            exact ⟨hc4 0 _ rfl, hc4 1 _ rfl, hc4 2 _ rfl⟩
          obtain ⟨c0, c1, c2⟩ := HPC.out w4 (Below.refl _ _)
          clear r0 r1 r2 d8 i1
          have r0 : w4.cell? ⟨g, m * 3, none⟩ = some (.int .i64 z.beg) := HO4.out.cellG3 hmm HZM.out 0
          have r1 : w4.cell? ⟨g, m * 3 + 1, none⟩ = some (.int .i64 z.fin) := HO4.out.cellG3 hmm HZM.out 1
          have r2 : w4.cell? ⟨g, m * 3 + 2, none⟩ = some (.int .i64 z.peak) := HO4.out.cellG3 hmm HZM.out 2
          have hg4 : g < w4.heap.size := (HO4.out.lt g rfl).2
          have HCN := Lib.hid (CAt.new w4 #[.int .i64 z.beg, .int .i64 z.fin, .int .i64 z.peak] 71)
          have HBX := Lib.hid ((Below.refl w4.heap.size w4).alloc (Nat.le_refl _) (.cells #[.int .i64 z.beg, .int .i64 z.fin, .int .i64 z.peak] 71))
          have HOA := Lib.hid (HO4.out.below HBX.out)
          have HBA := Lib.hid (HB4.out.alloc HB4.out.size (.cells #[.int .i64 z.beg, .int .i64 z.fin, .int .i64 z.peak] 71))
          go_upto_region 12 with (fail)
          obtain ⟨wA, hwA⟩ : ∃ wA, w4.alloc (.cells #[.int .i64 z.beg, .int .i64 z.fin, .int .i64 z.peak] 71) = wA := ⟨_, rfl⟩
          obtain ⟨gx, hgxe⟩ : ∃ gx, w4.heap.size = gx := ⟨_, rfl⟩
          have HPA := HPC.out _ HBX.out
          rw [hwA] at HCN HOA HBA HPA HBX ⊢
          have hgx : g < gx := by omega
          rw [hgxe] at HCN ⊢
          have hw1x : w1.heap.size ≤ gx := by omega
          clear hwA c0 c1 c2 r0 r1 r2
          obtain ⟨c0, c1, c2⟩ := HPA
          have k1 : wA.cell? ⟨gx, 1, none⟩ = some (.int .i64 z.fin) := HCN.out.cell 1
          have kf := HCN.out.free 1
          have HC5 := Lib.hid (HCN.out.set 1 (.int .i64 x.fin))
          have HBS := Lib.hid (HBX.out.setCell (p := ⟨gx, 1, none⟩) (show w4.heap.size ≤ gx by omega) (.int .i64 x.fin))
          have HB5 := Lib.hid (HBA.out.setCell (p := ⟨gx, 1, none⟩) hw1x (.int .i64 x.fin))
          have HO5 : Hid (Ow Alt.enc 3 (wA.setCell ⟨gx, 1, none⟩ (.int .i64 x.fin)) w1.heap.size 71 (.slice (some ⟨g, 0, none⟩) (m + 1) c') (m + 1) (xs ++ [z])) := Lib.hid (HOA.out.same fun q hq => Below.heap_setCell _ _ _ _ (by simp only [Value.ownBlock, Option.some.injEq] at hq; show q ≠ gx; omega))
          have HP5 := HPC.out _ HBS.out
          go_upto_region 13 with (fail)
          obtain ⟨w5, hw5⟩ : ∃ w5, wA.setCell ⟨gx, 1, none⟩ (.int .i64 x.fin) = w5 := ⟨_, rfl⟩
          rw [hw5] at HC5 HBS HB5 HO5 HP5 ⊢
          clear hw5 c0 c1 c2 k1 kf
          obtain ⟨c0, c1, c2⟩ := HP5
          have k2 : w5.cell? ⟨gx, 2, none⟩ = some (.int .i64 z.peak) := HC5.out.cell 2
          have n0' := cls_cell (w0 := w5) (B := w5.heap.size) (p := ⟨gx, 2, none⟩) HC5.out.lt k2
          have hb15 : b1 < w5.heap.size := Nat.lt_of_lt_of_le hbl4 HBS.out.size
          have n2 := cls_cell (w0 := w5) (B := w5.heap.size) (p := ⟨b1, o1 + k * 3 + 2, none⟩) hb15 c2
          clear k2 c0 c1 c2
          refine wp_region_cls_tail w5 (B := w5.heap.size) 9 (by kernel_rfl) (by kernel_rfl) (Below.refl _ _) ?_
          simp only [List.take_succ_cons, List.take_zero, List.drop_succ_cons, List.drop_zero]
          repeat (go_big_quiet_step ((first | (go_at_call 104; exact cls_same (l00MinJ_any _ _ _)))))
          refine wpQuiet_nil ?_
          intro _ hw'
          obtain ⟨uq, hw''⟩ := hw'
          subst hw''
          have hb6 := uq.ok
          generalize uq.w = w6 at hb6
          have HC6 := Lib.hid (HC5.out.below hb6)
          have HO6 := Lib.hid (HO5.out.below hb6)
          have HB6 := Lib.hid (HB5.out.trans (hb6.mono HB5.out.size))
          have k2 : w6.cell? ⟨gx, 2, none⟩ = some (.int .i64 z.peak) := HC6.out.cell 2
          have kf := HC6.out.free 2
          obtain ⟨P, hP⟩ : ∃ P, min z.peak x.peak = P := ⟨_, rfl⟩
          rw [hP] at HJ
          have HP := Lib.hid hP
          have HCB := Lib.hid (HC6.out.set 2 (.int .i64 P))
          have HBB := Lib.hid (HB6.out.setCell (p := ⟨gx, 2, none⟩) hw1x (.int .i64 P))
          have HOB : Hid (Ow Alt.enc 3 (w6.setCell ⟨gx, 2, none⟩ (.int .i64 P)) w1.heap.size 71 (.slice (some ⟨g, 0, none⟩) (m + 1) c') (m + 1) (xs ++ [z])) := Lib.hid (HO6.out.same fun q hq => Below.heap_setCell _ _ _ _ (by simp only [Value.ownBlock, Option.some.injEq] at hq; show q ≠ gx; omega))
          clear hb6 n0' n2 hP
          go_upto_region 14 with (fail)
          rw [HP.out]
          obtain ⟨wB, hwB⟩ : ∃ wB, w6.setCell ⟨gx, 2, none⟩ (.int .i64 P) = wB := ⟨_, rfl⟩
          rw [hwB] at HCB HBB HOB ⊢
          clear hwB k2 kf
          have e0 : wB.cell? ⟨gx, 0, none⟩ = some (.int .i64 z.beg) := HCB.out.cell 0
          have e1 : wB.cell? ⟨gx, 1, none⟩ = some (.int .i64 x.fin) := HCB.out.cell 1
          have e2 : wB.cell? ⟨gx, 2, none⟩ = some (.int .i64 P) := HCB.out.cell 2
          have hs9 : w1.heap.size ≤ wB.heap.size := HBB.out.size
          have HY := Lib.hid (HSETL.out ⟨z.beg, x.fin, P⟩)
          go_wp2_with (with_reducible refine wpl_set Alt.len (by decide) _ rfl 71 (.tmp 67) (.tmp 66) rfl g (m * 3) rfl _ rfl ⟨z.beg, x.fin, P⟩ rfl ?s1 (Alt.one _) w1.heap.size 71 (m + 1) c' m _ HOB.out hmm rfl w1.heap.size HGB.out hs9 _ HY ?_)
          case s1 => kernel_rfl
          intro w9 ho9 hb9 _
          have HOZ : Hid (Ow Alt.enc 3 w9 w1.heap.size 71 (.slice (some ⟨g, 0, none⟩) (m + 1) c') (m + 1) (jnN d ls (k + 1))) := Lib.hid (by rw [HJ.out]; exact ho9)
          have HB9 := Lib.hid (HBB.out.trans hb9)
          clear ho9 hb9 e0 e1 e2
          go_wp2_with fail
          go_roundw
          case rel => exact ⟨k + 1, m + 1, _, _, by omega, by go_num, rfl, by omega, HOZ, HB9⟩
          case measure => simp [intOf]; omega
        · have HJ := Lib.hid (jnN_new HX.out HLZ.out hdd)
          have d8 : decide (x.beg - z.fin ≤ d) = false := by simpa using hdd
          clear hdd
          go_wp2_with fail
          go_quiet (fail)
          have HB4 : Hid (Below w1.heap.size w1 (wr.drewN nq)) := Lib.hid (below_drewN HB.out nq)
          have HO4 := Lib.hid (HO.out.below (below_drewN (Below.refl wr.heap.size wr) nq))
          have HRC : Hid (Rd Alt.enc 3 (wr.drewN nq) (some ⟨b1, o1, none⟩) ls) := Lib.hid (HR.out.below (HB1.out.trans (HB4.out.mono hs1)))
          obtain ⟨w4, hw4⟩ : ∃ wq, wr.drewN nq = wq := ⟨_, rfl⟩
          rw [hw4] at HB4 HO4 HRC ⊢
          have hbl4 : b1 < w4.heap.size := by rw [← hw4]; exact hbl1
          clear hw4 c0 c1 c2
          have HPC : Hid (∀ wq, Below w4.heap.size w4 wq → wq.cell? ⟨b1, o1 + k * 3, none⟩ = some (.int .i64 x.beg) ∧ wq.cell? ⟨b1, o1 + k * 3 + 1, none⟩ = some (.int .i64 x.fin) ∧ wq.cell? ⟨b1, o1 + k * 3 + 2, none⟩ = some (.int .i64 x.peak)) := Lib.hid fun wq hq => by
            obtain ⟨b4, o4, hab4, _, hc4⟩ := (HRC.out.below hq) k x HX.out
            simp only [Option.some.injEq, Addr.mk.injEq, and_true] at hab4
            obtain ⟨rfl, rfl⟩ := hab4
            exact ⟨hc4 0 _ rfl, hc4 1 _ rfl, hc4 2 _ rfl⟩
          obtain ⟨c0, c1, c2⟩ := HPC.out w4 (Below.refl _ _)
          clear r0 r1 r2 d8 i1
          have h63 : (m + 1) + 1 ≤ maxLen := by unfold maxLen; omega
          have hby : ((m + 1) + 1) * 24 ≤ 140737488355328 := by omega
          obtain ⟨ys, hys⟩ : ∃ ys, (xs ++ [z]) ++ [(⟨x.beg, x.fin, x.peak⟩ : Alt)] = ys := ⟨_, rfl⟩
          have HYS := Lib.hid hys
          have hsz9 : w1.heap.size ≤ w4.heap.size := HB4.out.size
          clear hys
          go_wp2_with (at_builtin; refine wpl_app Alt.len (by decide) _ rfl (.tmp 68) (.tmp 73) 61 rfl 71 _ 24 rfl Try.underlying61 infoA w1.heap.size _ (m + 1) _ rfl w4 _ _ rfl HO4.out (⟨x.beg, x.fin, x.peak⟩ : Alt) rfl rfl (Alt.one _) h63 hby hsz9 ys HYS ?_)
          intro a9 c9 w9 ho9 hb9 hs9
          have HO9 := Lib.hid ho9
          have HB9 := Lib.hid (HB4.out.trans hb9)
          clear ho9 hb9 h63 hby
          have HOZ : Hid (Ow Alt.enc 3 w9 w1.heap.size 71 (.slice a9 (m + 1 + 1) c9) (m + 1 + 1) (jnN d ls (k + 1))) := Lib.hid (by rw [HJ.out]; have h := HO9.out; rw [← HYS.out] at h; exact h)
          clear c0 c1 c2
          go_wp2_with fail
          go_roundw
          case rel => exact ⟨k + 1, m + 1 + 1, _, _, by omega, by go_num, rfl, by omega, HOZ, HB9⟩
          case measure => simp [intOf]; omega
    · obtain rfl : k = n := by omega
      have HBE := Lib.hid (HB1.out.trans (HB.out.mono hs1))
      have HOE := Lib.hid (HO.out.mono hs1)
      go_wp2_with fail
      go_ret2
      exact ⟨a', N, c', rfl, HOE.out, HBE.out⟩
end Go.Proofs.Ytlgjdfagmeehcaa
