/-
  'rising' over volumes.
-/
import Derived.Test.YtnioecigjpifnaaVol2
import Derived.Deep.RegionWith
namespace Go.Proofs.Ytnioecigjpifnaa
open Go.RowKit
set_option maxRecDepth 100000

theorem volumeName_any (s : ByteArray) (p q r t : Int) (w : World) : Calls Try.prog 70 #[.agg #[.string s, .int .i64 p, .int .i64 q, .int .i64 r, .int .i64 t]] w fun e w' => e = .returned (.string s) ∧ Below w.heap.size w w' := by
  go_enter Try.func70, Try.ntmps70
  go_wp2
  go_ret
  exact ⟨rfl, by repeat (first | exact Below.refl _ _ | refine Below.alloc ?_ (by simp <;> omega) _)⟩
theorem isVolume_lit (v : Vol) (r : Bool) (w : World) (hs : v.name.size ≤ 9223372036854775807) (h : volB v = r) : Calls Try.prog 69 #[.agg #[.string v.name, .int .i64 v.frm, .int .i64 v.til, .int .i64 v.cnt, .int .i64 v.cop]] w fun e w' => e = .returned (.bool r) ∧ Below w.heap.size w w' := by
  subst h; exact isVolume_any v w hs

/-- five cells at a place hold a volume -/
def At5 (w : World) (b o : Nat) (v : Vol) : Prop := b < w.heap.size ∧ w.cell? ⟨b, o, none⟩ = some (.string v.name) ∧ w.cell? ⟨b, o + 1, none⟩ = some (.int .i64 v.frm) ∧ w.cell? ⟨b, o + 2, none⟩ = some (.int .i64 v.til) ∧ w.cell? ⟨b, o + 3, none⟩ = some (.int .i64 v.cnt) ∧ w.cell? ⟨b, o + 4, none⟩ = some (.int .i64 v.cop)
theorem At5.below {w w' : World} {b o : Nat} {v : Vol} (h : At5 w b o v) (hb : Below w.heap.size w w') : At5 w' b o v := by
  obtain ⟨h0, h1, h2, h3, h4, h5⟩ := h
  exact ⟨Nat.lt_of_lt_of_le h0 hb.size, (hb.cell (p := ⟨b, _, none⟩) h0).trans h1, (hb.cell (p := ⟨b, _, none⟩) h0).trans h2, (hb.cell (p := ⟨b, _, none⟩) h0).trans h3, (hb.cell (p := ⟨b, _, none⟩) h0).trans h4, (hb.cell (p := ⟨b, _, none⟩) h0).trans h5⟩
theorem At5.new (w : World) (v : Vol) (t : TypeId) : At5 (w.alloc (.cells #[.string v.name, .int .i64 v.frm, .int .i64 v.til, .int .i64 v.cnt, .int .i64 v.cop] t)) w.heap.size 0 v := by
  have h := fun j => cell_of_row (w.alloc (.cells #[.string v.name, .int .i64 v.frm, .int .i64 v.til, .int .i64 v.cnt, .int .i64 v.cop] t)) w.heap.size j _ t (0, 0) (heap_alloc_new w _)
  exact ⟨by simp, (h 0).trans rfl, (h 1).trans rfl, (h 2).trans rfl, (h 3).trans rfl, (h 4).trans rfl⟩
theorem At5.of_rd {w : World} {a : Option Addr} {vs : List Vol} {b o k : Nat} {x : Vol} (hr : Rd Vol.enc 5 w a vs) (ha : a = some ⟨b, o, none⟩) (hx : vs[k]? = some x) : At5 w b (o + k * 5) x := by
  obtain ⟨b', o', he, hlt, hc⟩ := hr k x hx
  rw [ha] at he
  simp only [Option.some.injEq, Addr.mk.injEq, and_true] at he
  obtain ⟨rfl, rfl⟩ := he
  exact ⟨hlt, hc 0 _ rfl, hc 1 _ rfl, hc 2 _ rfl, hc 3 _ rfl, hc 4 _ rfl⟩

set_option maxHeartbeats 4000000 in
theorem rising_any (vs : List Vol) (a : Option Addr) (n cap : Nat) (w : World) (hn : n ≤ 1048576) (hl : vs.length = n) (ho : ∀ v ∈ vs, Vol.Ok v) (hr : Rd Vol.enc 5 w a vs) :
    Calls Try.prog 68 #[.slice a n cap, .int .i64 40, .func (.func 69) #[] #[], .func (.func 70) #[] #[]] w fun e w' => e = .returned (.bool (volsB vs)) ∧ Below w.heap.size w w' := by
  by_cases h40 : n ≤ 40
  case neg =>
    have HF := Lib.hid (volsB_long (vs := vs) (by omega))
    have h40' : (40 : Int) < n := by omega
    clear hl ho hr
    go_enter Try.func68, Try.ntmps68
    go_wp2_with fail
    go_ret
    exact ⟨by rw [HF.out]; rfl, Below.refl _ _⟩
  go_enter Try.func68, Try.ntmps68
  go_wp2_with fail
  go_loopw [17] (fun i wr => ∃ k : Nat, k ≤ n ∧ i = .int .i64 k ∧ Hid (∀ i, i < k → okV vs i = true) ∧ Below w.heap.size w wr) (fun i _ => n - (intOf i).toNat)
  case atStart => exact ⟨0, Nat.zero_le _, rfl, fun i hi => absurd hi (by omega), Below.refl _ _⟩
  case round =>
    obtain ⟨k, hk, rfl, HK, hb⟩ := hrel
    by_cases hlt : k < n
    · obtain ⟨x, hx, htk⟩ := take_snoc' vs k (by omega)
      obtain ⟨b, o, rfl, hbl, hc⟩ := hr.below hb k x hx
      have hnm := okSize (ho x (List.mem_of_getElem? hx)).1
      have hat := At5.of_rd (hr.below hb) rfl hx
      obtain ⟨_, c0, c1, c2, c3, c4⟩ := hat
      have hnew := At5.new wr x 57
      clear hc htk
      have hbq : Below w.heap.size w (wr.alloc (.cells #[.string x.name, .int .i64 x.frm, .int .i64 x.til, .int .i64 x.cnt, .int .i64 x.cop] 57)) := hb.alloc hb.size _
      have hbr : Below wr.heap.size wr (wr.alloc (.cells #[.string x.name, .int .i64 x.frm, .int .i64 x.til, .int .i64 x.cnt, .int .i64 x.cop] 57)) := (Below.refl _ _).alloc (Nat.le_refl _) _
      cases hv : volB x with
      | false =>
        have HB := Lib.hid (volsB_bad (by omega) (okV_bad hx hv))
        clear hl ho hr hx
        have HQ := Lib.hid hbq; have HN := Lib.hid hnew; have HS : Hid (wr.heap.size ≤ (wr.alloc (.cells #[.string x.name, .int .i64 x.frm, .int .i64 x.til, .int .i64 x.cnt, .int .i64 x.cop] 57)).heap.size) := Lib.hid (by simp)
        clear hbq hnew hbr
        go_upto_region 6 with (fail)
        obtain ⟨wq, hwq⟩ : ∃ wq, wr.alloc (.cells #[.string x.name, .int .i64 x.frm, .int .i64 x.til, .int .i64 x.cnt, .int .i64 x.cop] 57) = wq := ⟨_, rfl⟩
        rw [hwq] at HQ HN HS ⊢
        clear hwq
        have n0 := cls_cell HN.out.1 HN.out.2.1
        have n1 := cls_cell HN.out.1 HN.out.2.2.1
        have n2 := cls_cell HN.out.1 HN.out.2.2.2.1
        have n3 := cls_cell HN.out.1 HN.out.2.2.2.2.1
        have n4 := cls_cell HN.out.1 HN.out.2.2.2.2.2
        simp only [Nat.zero_add] at n1 n2 n3 n4
        clear c0 c1 c2 c3 c4
        refine wp_region_cls wq (B := wq.heap.size) (by kernel_rfl) (by kernel_rfl) (Below.refl _ _) ?_
        repeat (go_big_quiet_step ((first | (go_at_call 69; exact cls_call (Nat.le_refl _) (isVolume_lit x false _ hnm hv)) | (go_at_call 70; exact cls_call (Nat.le_refl _) (volumeName_any _ _ _ _ _ _)))))
        refine wpQuiet_nil ?_
        intro _ hw'
        obtain ⟨uq, hw''⟩ := hw'
        subst hw''
        have hb3 := HQ.out.trans (uq.ok.mono (Nat.le_trans hb.size HS.out))
        generalize uq.w = w3 at hb3
        clear n0 n1 n2 n3 n4
        go_wp2_with fail
        go_ret
        exact ⟨by rw [HB.out]; rfl, hb3⟩
      | true =>
        by_cases hk0 : k = 0
        · subst hk0
          have HG := Lib.hid (okV_0 hx)
          clear hl ho hr hx
          have d1 : decide ((0 : Int) < ((0 : Nat) : Int)) = false := by simp
          simp only [Nat.zero_mul, Nat.add_zero] at c0 c1 c2 c3 c4
          have HQ := Lib.hid hbq; have HN := Lib.hid hnew; have HS : Hid (wr.heap.size ≤ (wr.alloc (.cells #[.string x.name, .int .i64 x.frm, .int .i64 x.til, .int .i64 x.cnt, .int .i64 x.cop] 57)).heap.size) := Lib.hid (by simp)
          clear hbq hnew hbr
          go_upto_region 6 with (fail)
          obtain ⟨wq, hwq⟩ : ∃ wq, wr.alloc (.cells #[.string x.name, .int .i64 x.frm, .int .i64 x.til, .int .i64 x.cnt, .int .i64 x.cop] 57) = wq := ⟨_, rfl⟩
          rw [hwq] at HQ HN HS ⊢
          clear hwq
          have n0 := cls_cell HN.out.1 HN.out.2.1
          have n1 := cls_cell HN.out.1 HN.out.2.2.1
          have n2 := cls_cell HN.out.1 HN.out.2.2.2.1
          have n3 := cls_cell HN.out.1 HN.out.2.2.2.2.1
          have n4 := cls_cell HN.out.1 HN.out.2.2.2.2.2
          simp only [Nat.zero_add] at n1 n2 n3 n4
          clear c0 c1 c2 c3 c4
          refine wp_region_cls wq (B := wq.heap.size) (by kernel_rfl) (by kernel_rfl) (Below.refl _ _) ?_
          repeat (go_big_quiet_step ((first | (go_at_call 69; exact cls_call (Nat.le_refl _) (isVolume_lit x true _ hnm hv)) | (go_at_call 70; exact cls_call (Nat.le_refl _) (volumeName_any _ _ _ _ _ _)))))
          refine wpQuiet_nil ?_
          intro _ hw'
          obtain ⟨uq, hw''⟩ := hw'
          subst hw''
          have hb3 := HQ.out.trans (uq.ok.mono (Nat.le_trans hb.size HS.out))
          generalize uq.w = w3 at hb3
          clear n0 n1 n2 n3 n4
          go_wp2_with fail
          go_roundw
          case rel => exact ⟨0 + 1, by omega, by go_num, all_step HK.out (by rw [HG.out]; exact hv), hb3⟩
          case measure => simp [intOf]; omega
        · obtain ⟨y, hy, _⟩ := take_snoc' vs (k - 1) (by omega)
          have haty := At5.of_rd (hr.below hb) rfl hy
          have HG := Lib.hid (okV_k hk0 hx hy)
          have HB : Hid (okV vs k = false → volsB vs = false) := Lib.hid (fun h => volsB_bad (by omega) h)
          clear hl ho hr hx hy
          have hk1 : 1 ≤ k := by omega
          have d1 : decide (0 < k) = true := by simp; omega
          have d2 : (0 : Int) ≤ (k : Int) - 1 := by omega
          have d3 : (k : Int) - 1 < (n : Int) := by omega
          have d4 : ((k : Int) - 1).toNat = k - 1 := by omega
          have d5 : (k : Int) < (n : Int) := by omega
          have d6 : IntKind.i64.wrap ((k : Int) - 1) = (k : Int) - 1 := IntWalk.i64_in _ (by omega)
          have HY := Lib.hid (haty.below hbr); clear haty
          cases hlb : Op.bytesLess y.name.toList x.name.toList with
          | true =>
            have HQ := Lib.hid hbq; have HN := Lib.hid hnew; have HS : Hid (wr.heap.size ≤ (wr.alloc (.cells #[.string x.name, .int .i64 x.frm, .int .i64 x.til, .int .i64 x.cnt, .int .i64 x.cop] 57)).heap.size) := Lib.hid (by simp)
            clear hbq hnew hbr
            go_upto_region 6 with (fail)
            obtain ⟨wq, hwq⟩ : ∃ wq, wr.alloc (.cells #[.string x.name, .int .i64 x.frm, .int .i64 x.til, .int .i64 x.cnt, .int .i64 x.cop] 57) = wq := ⟨_, rfl⟩
            rw [hwq] at HQ HN HS HY ⊢
            clear hwq
            have n0 := cls_cell HN.out.1 HN.out.2.1
            have n1 := cls_cell HN.out.1 HN.out.2.2.1
            have n2 := cls_cell HN.out.1 HN.out.2.2.2.1
            have n3 := cls_cell HN.out.1 HN.out.2.2.2.2.1
            have n4 := cls_cell HN.out.1 HN.out.2.2.2.2.2
            simp only [Nat.zero_add] at n1 n2 n3 n4
            clear c0 c1 c2 c3 c4
            have m0 := cls_cell HY.out.1 HY.out.2.1
            have m1 := cls_cell HY.out.1 HY.out.2.2.1
            have m2 := cls_cell HY.out.1 HY.out.2.2.2.1
            have m3 := cls_cell HY.out.1 HY.out.2.2.2.2.1
            have m4 := cls_cell HY.out.1 HY.out.2.2.2.2.2
            refine wp_region_cls wq (B := wq.heap.size) (by kernel_rfl) (by kernel_rfl) (Below.refl _ _) ?_
            repeat (go_big_quiet_step ((first | (go_at_call 69; exact cls_call (Nat.le_refl _) (isVolume_lit x true _ hnm hv)) | (go_at_call 70; exact cls_call (Nat.le_refl _) (volumeName_any _ _ _ _ _ _)))))
            refine wpQuiet_nil ?_
            intro _ hw'
            obtain ⟨uq, hw''⟩ := hw'
            subst hw''
            have hb3 := HQ.out.trans (uq.ok.mono (Nat.le_trans hb.size HS.out))
            generalize uq.w = w3 at hb3
            clear n0 n1 n2 n3 n4
            clear d1 d2 d3 d4 d5 d6 m0 m1 m2 m3 m4
            go_wp2_with fail
            go_roundw
            case rel => exact ⟨k + 1, by omega, by go_num, all_step HK.out (by rw [HG.out, hv]; exact hlb), hb3⟩
            case measure => simp [intOf]; omega
          | false =>
            have HQ := Lib.hid hbq; have HN := Lib.hid hnew; have HS : Hid (wr.heap.size ≤ (wr.alloc (.cells #[.string x.name, .int .i64 x.frm, .int .i64 x.til, .int .i64 x.cnt, .int .i64 x.cop] 57)).heap.size) := Lib.hid (by simp)
            clear hbq hnew hbr
            go_upto_region 6 with (fail)
            obtain ⟨wq, hwq⟩ : ∃ wq, wr.alloc (.cells #[.string x.name, .int .i64 x.frm, .int .i64 x.til, .int .i64 x.cnt, .int .i64 x.cop] 57) = wq := ⟨_, rfl⟩
            rw [hwq] at HQ HN HS HY ⊢
            clear hwq
            have n0 := cls_cell HN.out.1 HN.out.2.1
            have n1 := cls_cell HN.out.1 HN.out.2.2.1
            have n2 := cls_cell HN.out.1 HN.out.2.2.2.1
            have n3 := cls_cell HN.out.1 HN.out.2.2.2.2.1
            have n4 := cls_cell HN.out.1 HN.out.2.2.2.2.2
            simp only [Nat.zero_add] at n1 n2 n3 n4
            clear c0 c1 c2 c3 c4
            have m0 := cls_cell HY.out.1 HY.out.2.1
            have m1 := cls_cell HY.out.1 HY.out.2.2.1
            have m2 := cls_cell HY.out.1 HY.out.2.2.2.1
            have m3 := cls_cell HY.out.1 HY.out.2.2.2.2.1
            have m4 := cls_cell HY.out.1 HY.out.2.2.2.2.2
            refine wp_region_cls wq (B := wq.heap.size) (by kernel_rfl) (by kernel_rfl) (Below.refl _ _) ?_
            repeat (go_big_quiet_step ((first | (go_at_call 69; exact cls_call (Nat.le_refl _) (isVolume_lit x true _ hnm hv)) | (go_at_call 70; exact cls_call (Nat.le_refl _) (volumeName_any _ _ _ _ _ _)))))
            refine wpQuiet_nil ?_
            intro _ hw'
            obtain ⟨uq, hw''⟩ := hw'
            subst hw''
            have hb3 := HQ.out.trans (uq.ok.mono (Nat.le_trans hb.size HS.out))
            generalize uq.w = w3 at hb3
            clear n0 n1 n2 n3 n4
            clear d1 d2 d3 d4 d5 d6 m0 m1 m2 m3 m4
            go_wp2_with fail
            go_ret
            exact ⟨by rw [HB.out (by rw [HG.out, hv]; exact hlb)]; rfl, hb3⟩
    · have hkn : k = n := by omega
      subst hkn
      have HF := Lib.hid (volsB_ok (vs := vs) (by omega) (by rw [hl]; exact HK.out))
      clear hl ho hr
      go_wp2_with fail
      go_ret
      exact ⟨by rw [HF.out]; rfl, hb⟩

end Go.Proofs.Ytnioecigjpifnaa
