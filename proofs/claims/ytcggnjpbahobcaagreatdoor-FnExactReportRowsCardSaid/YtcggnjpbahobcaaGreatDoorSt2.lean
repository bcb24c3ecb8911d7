/-
  The stars of estimates, in the program, and in the reference.
-/
import Derived.Test.YtcggnjpbahobcaaGreatDoorSt1
import Derived.Test.YtcggnjpbahobcaaGreatDoorStar
import Derived.Test.YtcggnjpbahobcaaGreatDoorShelf
import Derived.Sort.OwnSorted
namespace Go.Proofs.YtcggnjpbahobcaaGreatDoor
open Go.RowKit
set_option maxRecDepth 100000
set_option linter.unusedVariables false
set_option linter.unusedSimpArgs false
def starsE (es : List Est) : List ByteArray := es.map Est.star
theorem starsE_step {es : List Est} {k : Nat} {x : Est} (hx : es[k]? = some x) : starsE (es.take k) ++ [x.star] = starsE (es.take (k + 1)) := by
  unfold starsE
  rw [List.take_add_one, hx]
  simp
theorem starsE_len (es : List Est) : (starsE es).length = es.length := by simp [starsE]
set_option maxHeartbeats 4000000 in
theorem specStars (es : List Est) (a : Option Addr) (n c : Nat) (w : World) (hv : estsB es = true) (ho : ∀ v ∈ es, Est.Ok v) (hl : es.length = n) (hr : Rd Est.enc 5 w a es) :
    Calls Tryz.prog 15 #[.slice a n c] w fun e w' => ∃ g' n' c' L, e = .returned (.tuple #[.slice (some ⟨g', 0, none⟩) n' c', .int .i64 0]) ∧ n' ≤ 100 ∧ OnlyS (starsE es) L ∧ Ow eS 1 w' w.heap.size 9 (.slice (some ⟨g', 0, none⟩) n' c') n' L ∧ Below w.heap.size w w' := by
  have hn : n ≤ 100 := by rw [← hl]; exact estsB_len hv
  have HL := Lib.hid hl
  have HOK := Lib.hid (l06Ok_any es a n c w (by omega) hl ho hr)
  rw [hv] at HOK
  have HR := Lib.hid hr
  clear hl ho hv hr
  go_enter Tryz.func15, Tryz.ntmps15
  go_wp2_with fail
  refine HOK.out.mono ?_
  rintro e w1 ⟨rfl, hb1⟩
  have HB1 := Lib.hid hb1
  have HO0 := Lib.hid ((Ow.built eS 1 w1 9).mono hb1.size)
  have HB0 := Lib.hid (hb1.trans ((below_built w1 9).mono hb1.size))
  clear hb1
  go_wp2_with fail
  go_loopw [4, 5] (fun ov iv wr => ∃ (k g m c2 : Nat) (L : List ByteArray), k ≤ n ∧ m ≤ k ∧ iv = .int .i64 k ∧ ov = .slice (some ⟨g, 0, none⟩) m c2 ∧ Hid (OnlyS (starsE (es.take k)) L) ∧ Hid (Ow eS 1 wr w.heap.size 9 (.slice (some ⟨g, 0, none⟩) m c2) m L) ∧ Hid (Below w.heap.size w wr)) (fun _ iv _ => n - (intOf iv).toNat)
  case atStart => exact ⟨0, _, 0, _, [], Nat.zero_le _, Nat.le_refl _, rfl, rfl, Lib.hid onlyS_nil, HO0, HB0⟩
  case round =>
    obtain ⟨k, g, m, c2, L, hk, hm, rfl, rfl, HS, HO, HB⟩ := hrel
    by_cases hlt : k < n
    · obtain ⟨x, hx⟩ : ∃ x, es[k]? = some x := ⟨_, List.getElem?_eq_getElem (by rw [HL.out]; exact hlt)⟩
      obtain ⟨b, o, hab, _, hc⟩ := (HR.out.below HB.out) k x hx
      subst hab
      have c1 := hc 1 _ rfl
      have HX := Lib.hid hx
      clear hx hc
      have HP := Lib.hid (putName_any L x.star w.heap.size g m c2 wr (by omega) HB.out.size HO.out)
      go_wp2_with fail
      refine HP.out.mono ?_
      rintro e w2 ⟨g2, n2, c3, K, M, rfl, hn2, hput, ho2, hb2⟩
      have HS2 : Hid (OnlyS (starsE (es.take (k + 1))) M) := Lib.hid (by rw [← starsE_step HX.out]; exact HS.out.put hput)
      have HO2 := Lib.hid ho2
      have HB2 := Lib.hid (HB.out.trans (hb2.mono HB.out.size))
      clear hput ho2 hb2 c1
      go_wp2_with fail
      go_roundw
      case rel => exact ⟨k + 1, g2, n2, c3, M, by omega, by omega, by go_num, rfl, HS2, HO2, HB2⟩
      case measure => simp [intOf]; omega
    · obtain rfl : k = n := by omega
      have HS2 : Hid (OnlyS (starsE es) L) := Lib.hid (by have := HS.out; rw [List.take_of_length_le (by rw [HL.out]; exact Nat.le_refl _)] at this; exact this)
      go_wp2_with fail
      go_ret2
      exact ⟨g, m, c2, L, rfl, by omega, HS2.out, HO.out, HB.out⟩
/-- the bytes of texts -/
def bys (L : List ByteArray) : List (List UInt8) := L.map (·.data.toList)
theorem bys_enc (L : List ByteArray) : (bys L).map encStr = L.flatMap eS := by
  unfold bys
  rw [List.map_map]
  induction L with
  | nil => rfl
  | cons x L ih => simp only [List.map_cons, List.flatMap_cons, ih]; rfl
theorem mkB_enc (zs : List (List UInt8)) : (zs.map mkB).flatMap eS = zs.map encStr := by
  induction zs with
  | nil => rfl
  | cons x L ih => simp only [List.map_cons, List.flatMap_cons, ih]; rfl
theorem bys_len (L : List ByteArray) : (bys L).length = L.length := by simp [bys]
theorem sortS_own (L : List ByteArray) (base g n c : Nat) (w : World) (hn : n ≤ 1000) (hbw : base ≤ w.heap.size) (h : Ow eS 1 w base 9 (.slice (some ⟨g, 0, none⟩) n c) n L) :
    Calls Tryz.prog 47 #[.slice (some ⟨g, 0, none⟩) n c] w fun e w' => e = .returned (.tuple #[]) ∧ Ow eS 1 w' base 9 (.slice (some ⟨g, 0, none⟩) n c) n (((bys L).mergeSort fun x y => decide (x ≤ y)).map mkB) ∧ Below base w w' := by
  have hlen := h.len eS_len (by decide)
  have hbl := bys_len L
  rcases h.2 with ⟨h0, _⟩ | ⟨g', cap, cur, hv, hb, hh, h1, h2, h3, h4⟩
  · cases h0
  cases hv
  have h4' : cur.toList.take (bys L).length = (bys L).map encStr := by rw [bys_enc, hbl, hlen, ← h4, Nat.mul_one]
  have hH := holds_of_block hh h4'
  have hS := Shslices_Sort_string g 0 c (bys L) w hH (Array.getElem?_eq_some_iff.1 hh).1 (by omega)
  rw [show (bys L).length = n by omega] at hS
  refine hS.mono fun e w' ⟨he, q, os, hw⟩ => ⟨he, ?_, ?_⟩
  · have ho := ownsRow_sorted (ss := bys L) (ts := (bys L).mergeSort fun x y => decide (x ≤ y)) (n := q) (os := os) (by simp) hb hh (by omega) h2 (by rw [h3])
    rw [← hw, show (bys L).length = n by omega] at ho
    unfold Ow
    rw [mkB_enc]
    exact ho
  · rw [hw]
    exact (Below.refl base w).grown (grownBy_sorted _) hbw (fun k hk => by injection hk with hk; omega)
theorem compactS_own (L : List ByteArray) (base g n c : Nat) (w : World) (hn : n ≤ 1000) (hbw : base ≤ w.heap.size) (h : Ow eS 1 w base 9 (.slice (some ⟨g, 0, none⟩) n c) n L) :
    Calls Tryz.prog 48 #[.slice (some ⟨g, 0, none⟩) n c] w fun e w' => ∃ m, e = .returned (.slice (some ⟨g, 0, none⟩) m c) ∧ m ≤ n ∧ Ow eS 1 w' base 9 (.slice (some ⟨g, 0, none⟩) m c) m ((Lib.compact (bys L)).map mkB) ∧ Below base w w' := by
  have hlen := h.len eS_len (by decide)
  have hbl := bys_len L
  have hcl := Lib.compact_length_le (bys L)
  rcases h.2 with ⟨h0, _⟩ | ⟨g', cap, cur, hv, hb, hh, h1, h2, h3, h4⟩
  · cases h0
  cases hv
  have h4' : cur.toList.take (bys L).length = (bys L).map encStr := by rw [bys_enc, hbl, hlen, ← h4, Nat.mul_one]
  have hH := holds_of_block hh h4'
  have hS := Shslices_Compact_string g 0 c (bys L) w hH (by omega) (by omega)
  rw [show (bys L).length = n by omega] at hS
  refine hS.mono fun e w' ⟨he, q, hw⟩ => ⟨_, he, by omega, ?_, ?_⟩
  · have hl2 : (Lib.compact (bys L) ++ List.replicate (n - (Lib.compact (bys L)).length) ([] : List UInt8)).length = (bys L).length := by simp; omega
    have ho := ownsRow_sorted (ss := bys L) (ts := Lib.compact (bys L) ++ List.replicate (n - (Lib.compact (bys L)).length) []) (n := q) (os := #[]) hl2 hb hh (by omega) h2 (by rw [h3])
    rw [Sort.grow_empty, ← hw] at ho
    rcases ho.2 with ⟨h0, _⟩ | ⟨g', cap, cur', hv, hb', hh', h1', h2', h3', h4''⟩
    · cases h0
    cases hv
    refine ⟨by rw [mkB_enc]; simp, .inr ⟨g, c, cur', rfl, hb', hh', by omega, h2', h3', ?_⟩⟩
    rw [mkB_enc, Nat.mul_one]
    rw [Nat.mul_one] at h4''
    have e := congrArg (List.take (Lib.compact (bys L)).length) h4''
    rw [List.take_take, Nat.min_eq_left hcl, List.map_append] at e
    rw [e, List.take_append_of_le_length (by simp), List.take_of_length_le (by simp)]
  · rw [hw, ← Sort.grow_empty (Sort.putRow _ _ _ _ _)]
    exact (Below.refl base w).grown (grownBy_sorted _) hbw (fun k hk => by injection hk with hk; omega)
set_option maxHeartbeats 1000000 in
theorem starOf_any (x : Est) (w : World) : Calls Tryz.prog 34 #[.agg #[.int .i64 x.time, .string x.star, .string x.obs, .int .i64 x.mag, .bool x.fnt]] w fun e w' => e = .returned (.string x.star) ∧ Below w.heap.size w w' := by
  obtain ⟨c0, c1, c2, c3, c4, hb⟩ := estNew w x
  have HB := Lib.hid hb
  clear hb c0 c2 c3 c4
  go_enter Tryz.func34, Tryz.ntmps34
  go_wp2_with fail
  go_ret
  exact ⟨rfl, HB.out⟩
set_option maxHeartbeats 4000000 in
theorem namesOf_star (es : List Est) (a : Option Addr) (n c : Nat) (w : World) (hn : n ≤ 100) (hl : es.length = n) (hr : Rd Est.enc 5 w a es) :
    Calls Tryz.prog 33 #[.slice a n c, .func (.func 34) #[] #[]] w fun e w' => ∃ g' n' c' L, e = .returned (.slice (some ⟨g', 0, none⟩) n' c') ∧ n' ≤ 100 ∧ OnlyS (starsE es) L ∧ Ow eS 1 w' w.heap.size 9 (.slice (some ⟨g', 0, none⟩) n' c') n' L ∧ Below w.heap.size w w' := by
  have HL := Lib.hid hl
  have HR := Lib.hid hr
  have hcf : ∀ (args : Array Value) (wx : World), (callFunc 34 args).run Tryz.prog wx = .ok (.enter 34 args) wx := fun args wx => by kernel_rfl
  have HO0 := Lib.hid (Ow.built eS 1 w 9)
  have HB0 := Lib.hid (below_built w 9)
  clear hl hr
  go_enter Tryz.func33, Tryz.ntmps33
  go_wp2_with fail
  go_loopw [5, 11] (fun ov iv wr => ∃ (k g c2 : Nat), k ≤ n ∧ iv = .int .i64 k ∧ ov = .slice (some ⟨g, 0, none⟩) k c2 ∧ Hid (Ow eS 1 wr w.heap.size 9 (.slice (some ⟨g, 0, none⟩) k c2) k (starsE (es.take k))) ∧ Hid (Below w.heap.size w wr)) (fun _ iv _ => n - (intOf iv).toNat)
  case atStart => exact ⟨0, _, _, Nat.zero_le _, rfl, rfl, HO0, HB0⟩
  case round =>
    obtain ⟨k, g, c2, hk, rfl, rfl, HO, HB⟩ := hrel
    by_cases hlt : k < n
    · obtain ⟨x, hx⟩ : ∃ x, es[k]? = some x := ⟨_, List.getElem?_eq_getElem (by rw [HL.out]; exact hlt)⟩
      obtain ⟨b, o, hab, _, hc⟩ := (HR.out.below HB.out) k x hx
      subst hab
      have c0 := hc 0 _ rfl
      rw [Nat.add_zero] at c0
      have c1 := hc 1 _ rfl
      have c2' := hc 2 _ rfl
      have c3 := hc 3 _ rfl
      have c4 := hc 4 _ rfl
      obtain ⟨d0, d1, d2, d3, d4, hba⟩ := estNew wr x
      have HSTEP := Lib.hid (starsE_step hx)
      have HS := Lib.hid fun wq => starOf_any x wq
      clear hx hc
      go_upto_region 5 with (fail)
      have HB1 := Lib.hid (HB.out.trans (hba.mono HB.out.size))
      have HO1 := Lib.hid (HO.out.below hba)
      generalize wr.alloc (.cells #[.int .i64 x.time, .string x.star, .string x.obs, .int .i64 x.mag, .bool x.fnt] 42) = w1 at *
      clear c0 c1 c2' c3 c4 hba
      go_wp2_with fail
      refine (HS.out _).mono ?_
      rintro e w2 ⟨rfl, hb2⟩
      have HB2 := Lib.hid (HB1.out.trans (hb2.mono HB1.out.size))
      have HO2 := Lib.hid (HO1.out.below hb2)
      clear hb2 d0 d1 d2 d3 d4
      have h63 : k + 1 ≤ maxLen := by unfold maxLen; omega
      have hby : (k + 1) * 16 ≤ 140737488355328 := by omega
      have hsz : w.heap.size ≤ w2.heap.size := HB2.out.size
      go_wp2_with (at_builtin; refine wpl_app eS_len (by decide) _ rfl (.tmp 15) (.tmp 19) 38 rfl 9 (.string ByteArray.empty) 16 rfl Tryz.underlying38 infoSt w.heap.size _ k _ rfl w2 _ _ rfl HO2.out x.star rfl rfl (eS_one _) h63 hby hsz _ HSTEP ?_)
      intro a3 c3 w3 ho3 hb3 _
      have HB3 := Lib.hid (HB2.out.trans hb3)
      obtain ⟨g3, hg3, _, _⟩ := ho3.at_ (by omega)
      subst hg3
      have HO3 := Lib.hid ho3
      clear ho3 hb3 h63 hby hsz
      go_wp2_with fail
      go_roundw
      case rel => exact ⟨k + 1, g3, c3, by omega, by go_num, rfl, HO3, HB3⟩
      case measure => simp [intOf]; omega
    · obtain rfl : k = n := by omega
      have HO1 : Hid (Ow eS 1 wr w.heap.size 9 (.slice (some ⟨g, 0, none⟩) k c2) k (starsE es)) := Lib.hid (by have := HO.out; rw [List.take_of_length_le (by rw [HL.out]; exact Nat.le_refl _)] at this; exact this)
      go_wp2_with fail
      refine (sortS_own _ w.heap.size g k c2 wr (by omega) HB.out.size HO1.out).mono ?_
      rintro e w2 ⟨rfl, ho2, hb2⟩
      have HO2 := Lib.hid ho2
      have HB2 := Lib.hid (HB.out.trans hb2)
      clear ho2 hb2
      go_wp2_with fail
      refine (compactS_own _ w.heap.size g k c2 w2 (by omega) HB2.out.size HO2.out).mono ?_
      rintro e w3 ⟨m, rfl, hm, ho3, hb3⟩
      have HO3 := Lib.hid ho3
      have HB3 := Lib.hid (HB2.out.trans hb3)
      have HS3 : Hid (OnlyS (starsE es) ((Lib.compact (bys (((bys (starsE es)).mergeSort fun x y => decide (x ≤ y)).map mkB))).map mkB)) := Lib.hid (by
        have e : bys (((bys (starsE es)).mergeSort fun x y => decide (x ≤ y)).map mkB) = (bys (starsE es)).mergeSort fun x y => decide (x ≤ y) := by
          unfold bys
          rw [List.map_map]
          exact (List.map_congr_left (fun l _ => mkB_list l)).trans (List.map_id _)
        rw [e]
        exact onlyS_sorted (starsE es))
      clear ho3 hb3
      go_wp2_with fail
      go_ret
      exact ⟨g, m, c2, _, rfl, by omega, HS3.out, HO3.out, HB3.out⟩
set_option maxHeartbeats 2000000 in
theorem implStars (es : List Est) (a : Option Addr) (n c : Nat) (w : World) (hv : estsB es = true) (ho : ∀ v ∈ es, Est.Ok v) (hl : es.length = n) (hr : Rd Est.enc 5 w a es) :
    Calls Tryz.prog 18 #[.slice a n c] w fun e w' => ∃ g' n' c' L, e = .returned (.tuple #[.slice (some ⟨g', 0, none⟩) n' c', .int .i64 0]) ∧ n' ≤ 100 ∧ OnlyS (starsE es) L ∧ Ow eS 1 w' w.heap.size 9 (.slice (some ⟨g', 0, none⟩) n' c') n' L ∧ Below w.heap.size w w' := by
  have hn : n ≤ 100 := by rw [← hl]; exact estsB_len hv
  have HL := Lib.hid hl
  have HOK := Lib.hid (validEst_any es a n c w (by omega) hl ho hr)
  rw [hv] at HOK
  have HR := Lib.hid hr
  clear hl ho hv hr
  go_enter Tryz.func18, Tryz.ntmps18
  go_wp2_with fail
  refine HOK.out.mono ?_
  rintro e w1 ⟨rfl, hb1⟩
  have HB1 := Lib.hid hb1
  clear hb1
  go_wp2_with fail
  refine (namesOf_star es a n c w1 hn HL.out (HR.out.below HB1.out)).mono ?_
  rintro e w2 ⟨g2, n2, c2, L, rfl, hn2, hs2, ho2, hb2⟩
  have HS2 := Lib.hid hs2
  have HO2 := Lib.hid (ho2.mono HB1.out.size)
  have HB2 := Lib.hid (HB1.out.trans (hb2.mono HB1.out.size))
  clear hs2 ho2 hb2
  go_wp2_with fail
  go_ret2
  exact ⟨g2, n2, c2, L, rfl, hn2, HS2.out, HO2.out, HB2.out⟩
set_option maxHeartbeats 2000000 in
theorem implStars_no (es : List Est) (a : Option Addr) (n c : Nat) (w : World) (hn : n ≤ 1048576) (hv : estsB es = false) (ho : ∀ v ∈ es, Est.Ok v) (hl : es.length = n) (hr : Rd Est.enc 5 w a es) :
    Calls Tryz.prog 18 #[.slice a n c] w fun e w' => e = .returned (.tuple #[.slice none 0 0, .int .i64 1]) ∧ Below w.heap.size w w' := by
  have HOK := Lib.hid (validEst_any es a n c w hn hl ho hr)
  rw [hv] at HOK
  clear hl ho hv hr
  go_enter Tryz.func18, Tryz.ntmps18
  go_wp2_with fail
  refine HOK.out.mono ?_
  rintro e w1 ⟨rfl, hb1⟩
  have HB1 := Lib.hid hb1
  clear hb1
  go_wp2_with fail
  go_ret2
  exact ⟨rfl, HB1.out⟩
end Go.Proofs.YtcggnjpbahobcaaGreatDoor
