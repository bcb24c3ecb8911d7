/-
  Lists of estimates: when one is valid, in the program and in the reference.
-/
import Derived.Test.YtcggnjpbahobcaaGreatDoorEst2
import Derived.Deep.CutRange
import Derived.Deep.Light
import Derived.Deep.RegionWith
namespace Go.Proofs.YtcggnjpbahobcaaGreatDoor
open Go.RowKit
set_option maxRecDepth 100000

def okE (es : List Est) (i : Nat) : Bool := match es[i]? with
  | some x => estB x && (match i with | 0 => true | j + 1 => match es[j]? with | some y => befE y x | none => false)
  | none => false
def estsB (es : List Est) : Bool := decide (es.length ≤ 100) && allB es.length (okE es)
theorem estsB_long {es : List Est} (h : ¬ es.length ≤ 100) : estsB es = false := by simp [estsB, h]
theorem estsB_bad {es : List Est} {i : Nat} (hi : i < es.length) (h : okE es i = false) : estsB es = false := by
  have := allB_false hi h
  simp [estsB, this]
theorem estsB_ok {es : List Est} (h2 : es.length ≤ 100) (h : ∀ i, i < es.length → okE es i = true) : estsB es = true := by
  have := allB_true h
  simp [estsB, this, h2]
theorem okE_0 {es : List Est} {x : Est} (hx : es[0]? = some x) : okE es 0 = estB x := by simp [okE, hx]
theorem okE_k {es : List Est} {k : Nat} {x y : Est} (hk : k ≠ 0) (hx : es[k]? = some x) (hy : es[k - 1]? = some y) : okE es k = (estB x && befE y x) := by
  obtain ⟨j, rfl⟩ : ∃ j, k = j + 1 := ⟨k - 1, by omega⟩
  rw [show j + 1 - 1 = j by omega] at hy
  simp [okE, hx, hy]
theorem okE_bad {es : List Est} {k : Nat} {x : Est} (hx : es[k]? = some x) (h : estB x = false) : okE es k = false := by
  simp [okE, hx, h]
theorem okSizeE {s : ByteArray} (h : s.size ≤ maxLen) : s.size ≤ 9223372036854775807 := by unfold maxLen at h; omega
theorem l06One_lit (e : Est) (r : Bool) (b o : Nat) (w : World) (hs : e.star.size ≤ 9223372036854775807) (ho : e.obs.size ≤ 9223372036854775807)
  (c0 : w.cell? ⟨b, o, none⟩ = some (.int .i64 e.time)) (c1 : w.cell? ⟨b, o + 1, none⟩ = some (.string e.star)) (c2 : w.cell? ⟨b, o + 2, none⟩ = some (.string e.obs)) (c3 : w.cell? ⟨b, o + 3, none⟩ = some (.int .i64 e.mag)) (h : estB e = r) :
    Calls Tryz.prog 25 #[.pointer (some ⟨b, o, none⟩)] w fun r' w' => r' = .returned (.bool r) ∧ w = w' := by
  subst h; exact l06One_any e b o w hs ho c0 c1 c2 c3
theorem l06Before_lit (x y : Est) (r : Bool) (b o b' o' : Nat) (w : World)
  (c0 : w.cell? ⟨b, o, none⟩ = some (.int .i64 x.time)) (c1 : w.cell? ⟨b, o + 1, none⟩ = some (.string x.star)) (c2 : w.cell? ⟨b, o + 2, none⟩ = some (.string x.obs))
  (e0 : w.cell? ⟨b', o', none⟩ = some (.int .i64 y.time)) (e1 : w.cell? ⟨b', o' + 1, none⟩ = some (.string y.star)) (e2 : w.cell? ⟨b', o' + 2, none⟩ = some (.string y.obs)) (h : befE x y = r) :
    Calls Tryz.prog 26 #[.pointer (some ⟨b, o, none⟩), .pointer (some ⟨b', o', none⟩)] w fun r' w' => r' = .returned (.bool r) ∧ ∃ m, w' = w.drewN m := by
  subst h; exact l06Before_any x y b o b' o' w c0 c1 c2 e0 e1 e2
theorem isEstimate_lit (e : Est) (r : Bool) (w : World) (hs : e.star.size ≤ 9223372036854775807) (ho : e.obs.size ≤ 9223372036854775807) (h : estB e = r) :
    Calls Tryz.prog 45 #[.agg #[.int .i64 e.time, .string e.star, .string e.obs, .int .i64 e.mag, .bool e.fnt]] w fun r' w' => r' = .returned (.bool r) ∧ Below w.heap.size w w' := by
  subst h; exact isEstimate_any e w hs ho
theorem quiet_sameE {P : Program} {f : FuncId} {args : Array Value} {w : World} {n : Nat} {v : Value}
    (h : Calls P f args (w.drewN n) fun e w' => e = .returned v ∧ w.drewN n = w') : Calls P f args (w.drewN n) fun e w'' => e = .returned v ∧ ∃ m, w'' = w.drewN m :=
  h.mono fun _ _ ⟨he, hm⟩ => ⟨he, n, hm.symm⟩
theorem quiet_drewE {P : Program} {f : FuncId} {args : Array Value} {w : World} {n : Nat} {v : Value}
    (h : Calls P f args (w.drewN n) fun e w' => e = .returned v ∧ ∃ m, w' = (w.drewN n).drewN m) : Calls P f args (w.drewN n) fun e w'' => e = .returned v ∧ ∃ m, w'' = w.drewN m := Calls.quiet_of h

set_option maxHeartbeats 4000000 in
theorem l06Ok_any (es : List Est) (a : Option Addr) (n cap : Nat) (w : World) (hn : n ≤ 1048576) (hl : es.length = n) (ho : ∀ v ∈ es, Est.Ok v) (hr : Rd Est.enc 5 w a es) :
    Calls Tryz.prog 14 #[.slice a n cap] w fun e w' => e = .returned (.bool (estsB es)) ∧ Below w.heap.size w w' := by
  go_enter Tryz.func14, Tryz.ntmps14
  go_wp2_with fail
  go_loopw [3] (fun i wr => ∃ k : Nat, k ≤ n ∧ i = .int .i64 k ∧ Hid (∀ i, i < k → okE es i = true) ∧ Below w.heap.size w wr) (fun i _ => n - (intOf i).toNat)
  case atStart => exact ⟨0, Nat.zero_le _, rfl, fun i hi => absurd hi (by omega), Below.refl _ _⟩
  case round =>
    obtain ⟨k, hk, rfl, HK, hb⟩ := hrel
    by_cases hlt : k < n
    · obtain ⟨x, hx, htk⟩ := take_snoc' es k (by omega)
      obtain ⟨b, o, rfl, hbl, hc⟩ := hr.below hb k x hx
      have hok := ho x (List.mem_of_getElem? hx)
      have hs1 := okSizeE hok.2.1
      have hs2 := okSizeE hok.2.2.1
      have c0 := hc 0 _ rfl
      rw [Nat.add_zero] at c0
      have c1 := hc 1 _ rfl
      have c2 := hc 2 _ rfl
      have c3 := hc 3 _ rfl
      clear hc htk hok
      cases hv : estB x with
      | false =>
        have HB := Lib.hid (estsB_bad (by omega) (okE_bad hx hv))
        clear hl ho hr hx
        go_wp2_with fail
        go_quiet ((go_at_call 25; exact quiet_sameE (l06One_lit x false b (o + k * 5) _ hs1 hs2 (by simpa using c0) (by simpa using c1) (by simpa using c2) (by simpa using c3) hv)))
        have hb2 : Below w.heap.size w (wr.drewN nq) := below_drewN hb nq
        go_wp2_with fail
        go_ret
        exact ⟨by rw [HB.out]; rfl, hb2⟩
      | true =>
        by_cases hk0 : k = 0
        · subst hk0
          have HG := Lib.hid (okE_0 hx)
          clear hl ho hr hx
          have d1 : decide ((0 : Int) < ((0 : Nat) : Int)) = false := by simp
          simp only [Nat.zero_mul, Nat.add_zero] at c0 c1 c2 c3
          go_wp2_with fail
          go_quiet ((go_at_call 25; exact quiet_sameE (l06One_lit x true b o _ hs1 hs2 (by simpa using c0) (by simpa using c1) (by simpa using c2) (by simpa using c3) hv)))
          have hb2 : Below w.heap.size w (wr.drewN nq) := below_drewN hb nq
          go_wp2_with fail
          go_roundw
          case rel => exact ⟨0 + 1, by omega, by go_num, all_step HK.out (by rw [HG.out]; exact hv), hb2⟩
          case measure => simp [intOf]; omega
        · obtain ⟨y, hy, _⟩ := take_snoc' es (k - 1) (by omega)
          obtain ⟨b', o', he, _, hc⟩ := hr.below hb (k - 1) y hy
          simp only [Option.some.injEq, Addr.mk.injEq, and_true] at he
          obtain ⟨rfl, rfl⟩ := he
          have e0 := hc 0 _ rfl
          rw [Nat.add_zero] at e0
          have e1 := hc 1 _ rfl
          have e2 := hc 2 _ rfl
          clear hc
          have HG := Lib.hid (okE_k hk0 hx hy)
          have HB : Hid (okE es k = false → estsB es = false) := Lib.hid (fun h => estsB_bad (by omega) h)
          clear hl ho hr hx hy
          have hk1 : 1 ≤ k := by omega
          have d1 : decide (0 < k) = true := by simp; omega
          have d2 : (0 : Int) ≤ (k : Int) - 1 := by omega
          have d3 : (k : Int) - 1 < (n : Int) := by omega
          have d4 : ((k : Int) - 1).toNat = k - 1 := by omega
          have d5 : (k : Int) < (n : Int) := by omega
          have d6 : IntKind.i64.wrap ((k : Int) - 1) = (k : Int) - 1 := IntWalk.i64_in _ (by omega)
          cases hlb : befE y x with
          | true =>
            go_wp2_with fail
            go_quiet ((first | (go_at_call 25; exact quiet_sameE (l06One_lit x true b (o + k * 5) _ hs1 hs2 (by simpa using c0) (by simpa using c1) (by simpa using c2) (by simpa using c3) hv)) | (go_at_call 26; exact quiet_drewE (l06Before_lit y x true b (o + (k - 1) * 5) b (o + k * 5) _ (by simpa using e0) (by simpa using e1) (by simpa using e2) (by simpa using c0) (by simpa using c1) (by simpa using c2) hlb))))
            have hb2 : Below w.heap.size w (wr.drewN nq) := below_drewN hb nq
            clear d1 d2 d3 d4 d5 d6
            go_wp2_with fail
            go_roundw
            case rel => exact ⟨k + 1, by omega, by go_num, all_step HK.out (by rw [HG.out, hv, hlb]; rfl), hb2⟩
            case measure => simp [intOf]; omega
          | false =>
            go_wp2_with fail
            go_quiet ((first | (go_at_call 25; exact quiet_sameE (l06One_lit x true b (o + k * 5) _ hs1 hs2 (by simpa using c0) (by simpa using c1) (by simpa using c2) (by simpa using c3) hv)) | (go_at_call 26; exact quiet_drewE (l06Before_lit y x false b (o + (k - 1) * 5) b (o + k * 5) _ (by simpa using e0) (by simpa using e1) (by simpa using e2) (by simpa using c0) (by simpa using c1) (by simpa using c2) hlb))))
            have hb2 : Below w.heap.size w (wr.drewN nq) := below_drewN hb nq
            clear d1 d2 d3 d4 d5 d6
            go_wp2_with fail
            go_ret
            exact ⟨by rw [HB.out (by rw [HG.out, hv, hlb]; rfl)]; rfl, hb2⟩
    · have hkn : k = n := by omega
      subst hkn
      by_cases h40 : k ≤ 100
      · have HF := Lib.hid (estsB_ok (es := es) (by omega) (by rw [hl]; exact HK.out))
        have h40' : decide ((k : Int) ≤ 100) = true := by simp; omega
        clear hl ho hr
        go_wp2_with fail
        go_ret
        exact ⟨by rw [HF.out]; rfl, hb⟩
      · have HF := Lib.hid (estsB_long (es := es) (by omega))
        have h40' : decide ((k : Int) ≤ 100) = false := by simp; omega
        clear hl ho hr
        go_wp2_with fail
        go_ret
        exact ⟨by rw [HF.out]; rfl, hb⟩

theorem compareEst_lit (x y : Est) (z : Int) (w : World) (h : cE x y = z) : Calls Tryz.prog 46 #[.agg #[.int .i64 x.time, .string x.star, .string x.obs, .int .i64 x.mag, .bool x.fnt], .agg #[.int .i64 y.time, .string y.star, .string y.obs, .int .i64 y.mag, .bool y.fnt]] w fun e w' => e = .returned (.int .i64 z) ∧ Below w.heap.size w w' := by
  subst h; exact compareEst_any x y w

def At5E (w : World) (b o : Nat) (v : Est) : Prop := b < w.heap.size ∧ w.cell? ⟨b, o, none⟩ = some (.int .i64 v.time) ∧ w.cell? ⟨b, o + 1, none⟩ = some (.string v.star) ∧ w.cell? ⟨b, o + 2, none⟩ = some (.string v.obs) ∧ w.cell? ⟨b, o + 3, none⟩ = some (.int .i64 v.mag) ∧ w.cell? ⟨b, o + 4, none⟩ = some (.bool v.fnt)
theorem At5E.below {w w' : World} {b o : Nat} {v : Est} (h : At5E w b o v) (hb : Below w.heap.size w w') : At5E w' b o v := by
  obtain ⟨h0, h1, h2, h3, h4, h5⟩ := h
  exact ⟨Nat.lt_of_lt_of_le h0 hb.size, (hb.cell (p := ⟨b, _, none⟩) h0).trans h1, (hb.cell (p := ⟨b, _, none⟩) h0).trans h2, (hb.cell (p := ⟨b, _, none⟩) h0).trans h3, (hb.cell (p := ⟨b, _, none⟩) h0).trans h4, (hb.cell (p := ⟨b, _, none⟩) h0).trans h5⟩
theorem At5E.of_rd {w : World} {a : Option Addr} {vs : List Est} {b o k : Nat} {x : Est} (hr : Rd Est.enc 5 w a vs) (ha : a = some ⟨b, o, none⟩) (hx : vs[k]? = some x) : At5E w b (o + k * 5) x := by
  obtain ⟨b', o', he, hlt, hc⟩ := hr k x hx
  rw [ha] at he
  simp only [Option.some.injEq, Addr.mk.injEq, and_true] at he
  obtain ⟨rfl, rfl⟩ := he
  exact ⟨hlt, hc 0 _ rfl, hc 1 _ rfl, hc 2 _ rfl, hc 3 _ rfl, hc 4 _ rfl⟩

set_option maxHeartbeats 4000000 in
theorem validEst_any (es : List Est) (a : Option Addr) (n cap : Nat) (w : World) (hn : n ≤ 1048576) (hl : es.length = n) (ho : ∀ v ∈ es, Est.Ok v) (hr : Rd Est.enc 5 w a es) :
    Calls Tryz.prog 32 #[.slice a n cap] w fun e w' => e = .returned (.bool (estsB es)) ∧ Below w.heap.size w w' := by
  by_cases h40 : n ≤ 100
  case neg =>
    have HF := Lib.hid (estsB_long (es := es) (by omega))
    have h40' : (100 : Int) < n := by omega
    clear hl ho hr
    go_enter Tryz.func32, Tryz.ntmps32
    go_wp2_with fail
    go_ret
    exact ⟨by rw [HF.out]; rfl, Below.refl _ _⟩
  go_enter Tryz.func32, Tryz.ntmps32
  go_wp2_with fail
  go_loopw [10] (fun i wr => ∃ k : Nat, k ≤ n ∧ i = .int .i64 k ∧ Hid (∀ i, i < k → okE es i = true) ∧ Below w.heap.size w wr) (fun i _ => n - (intOf i).toNat)
  case atStart => exact ⟨0, Nat.zero_le _, rfl, fun i hi => absurd hi (by omega), Below.refl _ _⟩
  case round =>
    obtain ⟨k, hk, rfl, HK, hb⟩ := hrel
    by_cases hlt : k < n
    · obtain ⟨x, hx, htk⟩ := take_snoc' es k (by omega)
      obtain ⟨b, o, rfl, hbl, hc⟩ := hr.below hb k x hx
      have hok := ho x (List.mem_of_getElem? hx)
      have hs1 := okSizeE hok.2.1
      have hs2 := okSizeE hok.2.2.1
      obtain ⟨_, c0, c1, c2, c3, c4⟩ := At5E.of_rd (hr.below hb) rfl hx
      have hnew := estNew wr x
      have HN : Hid (wr.heap.size < (wr.alloc (.cells #[.int .i64 x.time, .string x.star, .string x.obs, .int .i64 x.mag, .bool x.fnt] 42)).heap.size ∧ (wr.alloc (.cells #[.int .i64 x.time, .string x.star, .string x.obs, .int .i64 x.mag, .bool x.fnt] 42)).cell? ⟨wr.heap.size, 0, none⟩ = some (.int .i64 x.time) ∧ (wr.alloc (.cells #[.int .i64 x.time, .string x.star, .string x.obs, .int .i64 x.mag, .bool x.fnt] 42)).cell? ⟨wr.heap.size, 1, none⟩ = some (.string x.star) ∧ (wr.alloc (.cells #[.int .i64 x.time, .string x.star, .string x.obs, .int .i64 x.mag, .bool x.fnt] 42)).cell? ⟨wr.heap.size, 2, none⟩ = some (.string x.obs) ∧ (wr.alloc (.cells #[.int .i64 x.time, .string x.star, .string x.obs, .int .i64 x.mag, .bool x.fnt] 42)).cell? ⟨wr.heap.size, 3, none⟩ = some (.int .i64 x.mag) ∧ (wr.alloc (.cells #[.int .i64 x.time, .string x.star, .string x.obs, .int .i64 x.mag, .bool x.fnt] 42)).cell? ⟨wr.heap.size, 4, none⟩ = some (.bool x.fnt)) := Lib.hid ⟨by simp, hnew.1, hnew.2.1, hnew.2.2.1, hnew.2.2.2.1, hnew.2.2.2.2.1⟩
      clear hc htk hok hnew
      have hbq : Below w.heap.size w (wr.alloc (.cells #[.int .i64 x.time, .string x.star, .string x.obs, .int .i64 x.mag, .bool x.fnt] 42)) := hb.alloc hb.size _
      have hbr : Below wr.heap.size wr (wr.alloc (.cells #[.int .i64 x.time, .string x.star, .string x.obs, .int .i64 x.mag, .bool x.fnt] 42)) := (Below.refl _ _).alloc (Nat.le_refl _) _
      cases hv : estB x with
      | false =>
        have HB := Lib.hid (estsB_bad (by omega) (okE_bad hx hv))
        clear hl ho hr hx
        have HQ := Lib.hid hbq; have HS : Hid (wr.heap.size ≤ (wr.alloc (.cells #[.int .i64 x.time, .string x.star, .string x.obs, .int .i64 x.mag, .bool x.fnt] 42)).heap.size) := Lib.hid (by simp)
        clear hbq hbr
        go_upto_region 6 with (fail)
        obtain ⟨wq, hwq⟩ : ∃ wq, (wr.alloc (.cells #[.int .i64 x.time, .string x.star, .string x.obs, .int .i64 x.mag, .bool x.fnt] 42)) = wq := ⟨_, rfl⟩
        rw [hwq] at HQ HS HN ⊢
        clear hwq
        have hlt' := HN.out.1
        have n0 := cls_cell hlt' HN.out.2.1
        have n1 := cls_cell hlt' HN.out.2.2.1
        have n2 := cls_cell hlt' HN.out.2.2.2.1
        have n3 := cls_cell hlt' HN.out.2.2.2.2.1
        have n4 := cls_cell hlt' HN.out.2.2.2.2.2
        clear c0 c1 c2 c3 c4
        refine wp_region_cls wq (B := wq.heap.size) (by kernel_rfl) (by kernel_rfl) (Below.refl _ _) ?_
        repeat (go_big_quiet_step ((first | (go_at_call 45; exact cls_call (Nat.le_refl _) (isEstimate_lit x false _ hs1 hs2 hv)))))
        refine wpQuiet_nil ?_
        intro _ hw'
        obtain ⟨uq, hw''⟩ := hw'
        subst hw''
        have hb3 := HQ.out.trans (uq.ok.mono (Nat.le_trans hb.size HS.out))
        generalize uq.w = w3 at hb3
        clear n0 n1 n2 n3 n4
        go_wp2_with fail
        go_ret
        exact ⟨by rw [HB.out]; rfl, hb3⟩
      | true =>
        by_cases hk0 : k = 0
        · subst hk0
          have HG := Lib.hid (okE_0 hx)
          clear hl ho hr hx
          have d1 : decide ((0 : Int) < ((0 : Nat) : Int)) = false := by simp
          simp only [Nat.zero_mul, Nat.add_zero] at c0 c1 c2 c3 c4
          have HQ := Lib.hid hbq; have HS : Hid (wr.heap.size ≤ (wr.alloc (.cells #[.int .i64 x.time, .string x.star, .string x.obs, .int .i64 x.mag, .bool x.fnt] 42)).heap.size) := Lib.hid (by simp)
          clear hbq hbr
          go_upto_region 6 with (fail)
          obtain ⟨wq, hwq⟩ : ∃ wq, (wr.alloc (.cells #[.int .i64 x.time, .string x.star, .string x.obs, .int .i64 x.mag, .bool x.fnt] 42)) = wq := ⟨_, rfl⟩
          rw [hwq] at HQ HS HN ⊢
          clear hwq
          have hlt' := HN.out.1
          have n0 := cls_cell hlt' HN.out.2.1
          have n1 := cls_cell hlt' HN.out.2.2.1
          have n2 := cls_cell hlt' HN.out.2.2.2.1
          have n3 := cls_cell hlt' HN.out.2.2.2.2.1
          have n4 := cls_cell hlt' HN.out.2.2.2.2.2
          clear c0 c1 c2 c3 c4
          refine wp_region_cls wq (B := wq.heap.size) (by kernel_rfl) (by kernel_rfl) (Below.refl _ _) ?_
          repeat (go_big_quiet_step ((first | (go_at_call 45; exact cls_call (Nat.le_refl _) (isEstimate_lit x true _ hs1 hs2 hv)))))
          refine wpQuiet_nil ?_
          intro _ hw'
          obtain ⟨uq, hw''⟩ := hw'
          subst hw''
          have hb3 := HQ.out.trans (uq.ok.mono (Nat.le_trans hb.size HS.out))
          generalize uq.w = w3 at hb3
          clear n0 n1 n2 n3 n4
          go_wp2_with fail
          go_roundw
          case rel => exact ⟨0 + 1, by omega, by go_num, all_step HK.out (by rw [HG.out]; exact hv), hb3⟩
          case measure => simp [intOf]; omega
        · obtain ⟨y, hy, _⟩ := take_snoc' es (k - 1) (by omega)
          have haty := At5E.of_rd (hr.below hb) rfl hy
          have HG := Lib.hid (okE_k hk0 hx hy)
          have HB : Hid (okE es k = false → estsB es = false) := Lib.hid (fun h => estsB_bad (by omega) h)
          clear hl ho hr hx hy
          have hk1 : 1 ≤ k := by omega
          have d1 : decide (0 < k) = true := by simp; omega
          have d2 : (0 : Int) ≤ (k : Int) - 1 := by omega
          have d3 : (k : Int) - 1 < (n : Int) := by omega
          have d4 : ((k : Int) - 1).toNat = k - 1 := by omega
          have d5 : (k : Int) < (n : Int) := by omega
          have d6 : IntKind.i64.wrap ((k : Int) - 1) = (k : Int) - 1 := IntWalk.i64_in _ (by omega)
          have HY := Lib.hid (haty.below hbr); clear haty
          have hcb := cE_bef y x
          obtain ⟨z, hz⟩ : ∃ z, cE y x = z := ⟨_, rfl⟩
          rw [hz] at hcb
          cases hlb : befE y x with
          | true =>
            rw [hlb] at hcb
            have HL' := Lib.hid hlb
            clear hlb
            have HQ := Lib.hid hbq; have HS : Hid (wr.heap.size ≤ (wr.alloc (.cells #[.int .i64 x.time, .string x.star, .string x.obs, .int .i64 x.mag, .bool x.fnt] 42)).heap.size) := Lib.hid (by simp)
            clear hbq hbr
            go_upto_region 6 with (fail)
            obtain ⟨wq, hwq⟩ : ∃ wq, (wr.alloc (.cells #[.int .i64 x.time, .string x.star, .string x.obs, .int .i64 x.mag, .bool x.fnt] 42)) = wq := ⟨_, rfl⟩
            rw [hwq] at HQ HS HN HY ⊢
            clear hwq
            have hlt' := HN.out.1
            have n0 := cls_cell hlt' HN.out.2.1
            have n1 := cls_cell hlt' HN.out.2.2.1
            have n2 := cls_cell hlt' HN.out.2.2.2.1
            have n3 := cls_cell hlt' HN.out.2.2.2.2.1
            have n4 := cls_cell hlt' HN.out.2.2.2.2.2
            have m0 := cls_cell HY.out.1 HY.out.2.1
            have m1 := cls_cell HY.out.1 HY.out.2.2.1
            have m2 := cls_cell HY.out.1 HY.out.2.2.2.1
            have m3 := cls_cell HY.out.1 HY.out.2.2.2.2.1
            have m4 := cls_cell HY.out.1 HY.out.2.2.2.2.2
            clear c0 c1 c2 c3 c4
            refine wp_region_cls wq (B := wq.heap.size) (by kernel_rfl) (by kernel_rfl) (Below.refl _ _) ?_
            repeat (go_big_quiet_step ((first | (go_at_call 45; exact cls_call (Nat.le_refl _) (isEstimate_lit x true _ hs1 hs2 hv)) | (go_at_call 46; exact cls_call (Nat.le_refl _) (compareEst_lit y x z _ hz)))))
            refine wpQuiet_nil ?_
            intro _ hw'
            obtain ⟨uq, hw''⟩ := hw'
            subst hw''
            have hb3 := HQ.out.trans (uq.ok.mono (Nat.le_trans hb.size HS.out))
            generalize uq.w = w3 at hb3
            clear n0 n1 n2 n3 n4
            clear d1 d2 d3 d4 d5 d6 m0 m1 m2 m3 m4 hcb
            go_wp2_with fail
            go_roundw
            case rel => exact ⟨k + 1, by omega, by go_num, all_step HK.out (by rw [HG.out, hv, HL'.out]; rfl), hb3⟩
            case measure => simp [intOf]; omega
          | false =>
            rw [hlb] at hcb
            have HL' := Lib.hid hlb
            clear hlb
            have HQ := Lib.hid hbq; have HS : Hid (wr.heap.size ≤ (wr.alloc (.cells #[.int .i64 x.time, .string x.star, .string x.obs, .int .i64 x.mag, .bool x.fnt] 42)).heap.size) := Lib.hid (by simp)
            clear hbq hbr
            go_upto_region 6 with (fail)
            obtain ⟨wq, hwq⟩ : ∃ wq, (wr.alloc (.cells #[.int .i64 x.time, .string x.star, .string x.obs, .int .i64 x.mag, .bool x.fnt] 42)) = wq := ⟨_, rfl⟩
            rw [hwq] at HQ HS HN HY ⊢
            clear hwq
            have hlt' := HN.out.1
            have n0 := cls_cell hlt' HN.out.2.1
            have n1 := cls_cell hlt' HN.out.2.2.1
            have n2 := cls_cell hlt' HN.out.2.2.2.1
            have n3 := cls_cell hlt' HN.out.2.2.2.2.1
            have n4 := cls_cell hlt' HN.out.2.2.2.2.2
            have m0 := cls_cell HY.out.1 HY.out.2.1
            have m1 := cls_cell HY.out.1 HY.out.2.2.1
            have m2 := cls_cell HY.out.1 HY.out.2.2.2.1
            have m3 := cls_cell HY.out.1 HY.out.2.2.2.2.1
            have m4 := cls_cell HY.out.1 HY.out.2.2.2.2.2
            clear c0 c1 c2 c3 c4
            refine wp_region_cls wq (B := wq.heap.size) (by kernel_rfl) (by kernel_rfl) (Below.refl _ _) ?_
            repeat (go_big_quiet_step ((first | (go_at_call 45; exact cls_call (Nat.le_refl _) (isEstimate_lit x true _ hs1 hs2 hv)) | (go_at_call 46; exact cls_call (Nat.le_refl _) (compareEst_lit y x z _ hz)))))
            refine wpQuiet_nil ?_
            intro _ hw'
            obtain ⟨uq, hw''⟩ := hw'
            subst hw''
            have hb3 := HQ.out.trans (uq.ok.mono (Nat.le_trans hb.size HS.out))
            generalize uq.w = w3 at hb3
            clear n0 n1 n2 n3 n4
            clear d1 d2 d3 d4 d5 d6 m0 m1 m2 m3 m4 hcb
            go_wp2_with fail
            go_ret
            exact ⟨by rw [HB.out (by rw [HG.out, hv, HL'.out]; rfl)]; rfl, hb3⟩
    · have hkn : k = n := by omega
      subst hkn
      have HF := Lib.hid (estsB_ok (es := es) (by omega) (by rw [hl]; exact HK.out))
      clear hl ho hr
      go_wp2_with fail
      go_ret
      exact ⟨by rw [HF.out]; rfl, hb⟩
end Go.Proofs.YtcggnjpbahobcaaGreatDoor
