/-
  All dispersions of a search.
-/
import Derived.Test.YthmiahekijeehaaGreatBbP
namespace Go.Proofs.YthmiahekijeehaaGreat
open Go.RowKit
set_option maxRecDepth 100000
set_option linter.unusedVariables false
set_option linter.unusedSimpArgs false
theorem saC_at {ps : List Pt} {x : Sch} {b : Int} (h : saC ps x b = 0) {k : Nat} (hk : k < perC x) : vaC ps (perAt x k) b = 0 := by
  obtain ⟨hok, hx, hb, hn⟩ := saC_parts h
  have hp := (perAt_le hx k).2 hk
  have h0 := perAt_pos hx k
  have h3 := hx.2.2.1
  unfold vaC
  rw [if_pos hok, if_pos (inB_iff.2 (by omega)), if_pos (inB_iff.2 hb)]
/-- the dispersions told, or a code -/
def DslP (ps : List Pt) (x : Sch) (b : Int) (w : World) (e : Ending) (w' : World) : Prop := ((saC ps x b ≠ 0 ∧ e = .returned (.tuple #[.slice none 0 0, .int .i64 (saC ps x b)])) ∨ (saC ps x b = 0 ∧ ∃ (a' : Option Addr) (c' : Nat), e = .returned (.tuple #[.slice a' (perC x) c', .int .i64 0]) ∧ Rd Frac.enc 2 w' a' (dsL ps b.toNat x (perC x)))) ∧ Below w.heap.size w w'
theorem DslP.bad {ps : List Pt} {x : Sch} {b : Int} {w w' : World} (h : saC ps x b ≠ 0) (hb : Below w.heap.size w w') : DslP ps x b w (.returned (.tuple #[.slice none 0 0, .int .i64 (saC ps x b)])) w' := ⟨.inl ⟨h, rfl⟩, hb⟩
theorem DslP.good {ps : List Pt} {x : Sch} {b : Int} {w w' : World} (h : saC ps x b = 0) {k : Nat} (hk : k = perC x) {a' : Option Addr} {c' : Nat} (hr : Rd Frac.enc 2 w' a' (dsL ps b.toNat x k)) (hb : Below w.heap.size w w') : DslP ps x b w (.returned (.tuple #[.slice a' k c', .int .i64 0])) w' := by
  subst hk; exact ⟨.inr ⟨h, _, _, rfl, hr⟩, hb⟩
theorem Rd.otherI {w w' : World} {b o : Nat} {L : List Int} (h : Rd eI 1 w (some ⟨b, o, none⟩) L) (hb : b < w.heap.size → w'.heap[b]? = w.heap[b]?) : Rd eI 1 w' (some ⟨b, o, none⟩) L := fun i x hx => by
  obtain ⟨b', o', he, hlt, hc⟩ := h i x hx
  cases he
  have h1 := hb hlt
  have h2 : b < w'.heap.size := by
    have h3 : w.heap[b]? = some w.heap[b] := Array.getElem?_eq_getElem hlt
    rw [h3] at h1
    exact (Array.getElem?_eq_some_iff.1 h1).1
  refine ⟨b, o, rfl, h2, fun j u hu => ?_⟩
  have := hc j u hu
  simp only [World.cell?, h1] at this ⊢
  exact this
def lenV : Value → Nat
  | .slice _ n _ => n
  | _ => 0
set_option maxHeartbeats 2000000 in
theorem periods_own (x : Sch) (hx : SchOk x) (w : World) : Calls Tryz.prog 22 #[.agg #[.int .i64 x.frm, .int .i64 x.til, .int .i64 x.stp]] w fun e w' => ∃ (a' : Option Addr) (c' : Nat), e = .returned (.slice a' (perC x) c') ∧ Ow eI 1 w' w.heap.size 2 (.slice a' (perC x) c') (perC x) (perL x (perC x)) ∧ Below w.heap.size w w' := by
  have HXO := Lib.hid hx
  have v1 := hx.1
  have v2 := hx.2.1
  have v3 := hx.2.2.1
  have v4 := hx.2.2.2.1
  have v5 := hx.2.2.2.2.1
  have hc := perC_in hx
  have hc1 := hc.1
  have hc5 := hc.2
  clear hx hc
  go_enter Tryz.func22, Tryz.ntmps22
  have HX1 := CAt.new w #[.int .i64 x.frm, .int .i64 x.til, .int .i64 x.stp] 26
  have hb2 := (Below.refl w.heap.size w).alloc (Nat.le_refl _) (.cells #[.int .i64 x.frm, .int .i64 x.til, .int .i64 x.stp] 26)
  obtain ⟨wv4, HW5⟩ : ∃ wx, w.alloc (.cells #[.int .i64 x.frm, .int .i64 x.til, .int .i64 x.stp] 26) = wx := ⟨_, rfl⟩
  obtain ⟨g3, HG6⟩ : ∃ gx, w.heap.size = gx := ⟨_, rfl⟩
  rw [HW5] at HX1 hb2
  rw [HG6] at HX1
  have hge7 : w.heap.size ≤ g3 := by rw [← HG6]; exact Nat.le_refl _
  have HX1_ := Lib.hid HX1
  clear HX1
  have HX1 := HX1_
  clear HX1_
  have HW5_ := Lib.hid HW5
  clear HW5
  have HW5 := HW5_
  clear HW5_
  have HG6_ := Lib.hid HG6
  clear HG6
  have HG6 := HG6_
  clear HG6_
  have HB8 : Hid (Below w.heap.size w wv4) := Lib.hid hb2
  clear hb2
  go_upto_region 1 with (fail)
  rw [HW5.out]
  rw [HG6.out]
  have hbx13 : g3 < wv4.heap.size := HX1.out.lt
  have HO9 := Ow.built eI 1 wv4 2
  have hb12 := below_built wv4 2
  obtain ⟨wv10, HW11⟩ : ∃ wx, (wv4.alloc (.cells #[] 2)) = wx := ⟨_, rfl⟩
  rw [HW11] at HO9 hb12
  have HO9_ := Lib.hid HO9
  clear HO9
  have HO9 := HO9_
  clear HO9_
  have HW11_ := Lib.hid HW11
  clear HW11
  have HW11 := HW11_
  clear HW11_
  have hsz14 : wv4.heap.size ≤ wv10.heap.size := hb12.size
  have HB15 : Hid (Below w.heap.size w wv10) := Lib.hid (HB8.out.trans (hb12.mono HB8.out.size))
  have HX16 := Lib.hid (HX1.out.below hb12)
  clear hb12
  go_upto_region 2 with (fail)
  rw [HW11.out]
  clear HW11
  have c17 : wv10.cell? ⟨g3, 0, none⟩ = some (.int .i64 x.frm) := HX16.out.cell 0
  have c18 : wv10.cell? ⟨g3, 1, none⟩ = some (.int .i64 x.til) := HX16.out.cell 1
  have c19 : wv10.cell? ⟨g3, 2, none⟩ = some (.int .i64 x.stp) := HX16.out.cell 2
  go_wp2_with fail
  go_loopw [3, 4] (fun vo vp wr => ∃ (k : Nat) (aO : Option Addr) (cO : Nat), k ≤ perC x ∧ vp = .int .i64 (perAt x k) ∧ vo = .slice aO k cO ∧ Hid (Ow eI 1 wr wv4.heap.size 2 (.slice aO k cO) k (perL x k)) ∧ wv4.heap.size ≤ wr.heap.size ∧ Hid (CAt wr g3 #[.int .i64 x.frm, .int .i64 x.til, .int .i64 x.stp] 26) ∧ Hid (Below w.heap.size w wr)) (fun _ vp _ => 1000001 - (intOf vp).toNat)
  case atStart => exact ⟨0, _, _, Nat.zero_le _, by rw [perAt_zero], rfl, HO9, hsz14, HX16, HB15⟩
  case round =>
    obtain ⟨k, aO, cO, hk, rfl, rfl, HOk, hszk, HXk20, HBk⟩ := hrel
    obtain ⟨wr21, hwr⟩ : ∃ wx, wx = wr := ⟨_, rfl⟩
    subst hwr
    have HB22 := HBk
    clear HBk
    by_cases hlt : perAt x k ≤ x.til
    · have hlk : k < perC x := (perAt_le HXO.out k).1 hlt
      have hp1 := perAt_pos HXO.out k
      have dlt : decide (perAt x k ≤ x.til) = true := decide_eq_true hlt
      have c23 : wr21.cell? ⟨g3, 0, none⟩ = some (.int .i64 x.frm) := HXk20.out.cell 0
      have c24 : wr21.cell? ⟨g3, 1, none⟩ = some (.int .i64 x.til) := HXk20.out.cell 1
      have c25 : wr21.cell? ⟨g3, 2, none⟩ = some (.int .i64 x.stp) := HXk20.out.cell 2
      have h63 : k + 1 ≤ maxLen := by unfold maxLen; omega
      have hby : (k + 1) * 8 ≤ 140737488355328 := by omega
      obtain ⟨ys32, hys⟩ : ∃ ys, perL x k ++ [(perAt x k : Int)] = ys := ⟨_, rfl⟩
      have HYS26 := Lib.hid hys
      clear hys
      have hsz9 : wv4.heap.size ≤ wr21.heap.size := hszk
      go_wp2_with (at_builtin; go_loud (refine wpl_app eI_len (by decide) _ rfl (.tmp 16) (.tmp 18) 39 rfl 2 _ 8 rfl Tryz.underlying39 infoI wv4.heap.size _ k _ rfl wr21 _ _ rfl HOk.out (perAt x k) rfl rfl (eI_one _) h63 hby hsz9 ys32 HYS26 ?_))
      intro a30 c31 wv29 ho9 hb9 hs9
      have HO27 := Lib.hid ho9
      have HB28 : Hid (Below w.heap.size w wv29) := Lib.hid (HB22.out.trans (hb9.mono HB8.out.size))
      have hsz33 : wv4.heap.size ≤ wv29.heap.size := Nat.le_trans hszk (Nat.le_of_lt hs9)
      clear c23 c24 c25
      have HX34 := Lib.hid (HXk20.out.belowN hb9 hbx13)
      clear ho9 hb9 h63 hby hsz9 hs9
      have c35 : wv29.cell? ⟨g3, 0, none⟩ = some (.int .i64 x.frm) := HX34.out.cell 0
      have c36 : wv29.cell? ⟨g3, 1, none⟩ = some (.int .i64 x.til) := HX34.out.cell 1
      have c37 : wv29.cell? ⟨g3, 2, none⟩ = some (.int .i64 x.stp) := HX34.out.cell 2
      have i38 : IntKind.i64.wrap ((perAt x k) + x.stp) = (perAt x k) + x.stp := IntWalk.i64_in _ (by omega)
      go_wp2_with fail
      have HLS : Hid (perL x (k + 1) = ys32) := Lib.hid (by rw [perL_succ, HYS26.out])
      have HSP : Hid (perAt x (k + 1) = (perAt x k) + x.stp) := Lib.hid (perAt_succ x k)
      go_roundw
      case rel => exact ⟨k + 1, _, _, by omega, by rw [HSP.out], rfl, Lib.hid (by rw [HLS.out]; exact HO27.out), hsz33, HX34, HB28⟩
      case measure => rw [show intOf (.int .i64 (perAt x k + x.stp)) = perAt x k + x.stp from rfl, show intOf (.int .i64 (perAt x k)) = perAt x k from rfl]; omega
    · have hkn : k = perC x := by have h1 := (perAt_le HXO.out k); omega
      have dlt : decide (perAt x k ≤ x.til) = false := decide_eq_false hlt
      have HKN := Lib.hid hkn
      clear hkn
      have c39 : wr21.cell? ⟨g3, 0, none⟩ = some (.int .i64 x.frm) := HXk20.out.cell 0
      have c40 : wr21.cell? ⟨g3, 1, none⟩ = some (.int .i64 x.til) := HXk20.out.cell 1
      have c41 : wr21.cell? ⟨g3, 2, none⟩ = some (.int .i64 x.stp) := HXk20.out.cell 2
      go_wp2_with fail
      go_ret
      have HOP : Hid (Ow eI 1 wr21 w.heap.size 2 (.slice aO (perC x) cO) (perC x) (perL x (perC x))) := Lib.hid (by rw [← HKN.out]; exact HOk.out.mono HB8.out.size)
      exact ⟨aO, cO, by rw [HKN.out]; rfl, HOP.out, HB22.out⟩
theorem infoFr : (Tryz.prog.info? 45).map (fun i => (i.zero, i.size, i.bytes)) = some (some (.agg #[.int .i64 0, .int .i64 0]), 2, 16) := by kernel_rfl
theorem bS_in {ps : List Pt} {b : Nat} {p : Int} (hm : ∀ x ∈ ps, (0 ≤ x.time ∧ x.time ≤ 10000000) ∧ -2000 ≤ x.mag ∧ x.mag ≤ 20000) (hn : ps.length ≤ 40) : 0 ≤ alS (bnG b p) ps ps.length ∧ alS (bnG b p) ps ps.length ≤ 12800000000000 ∧ 0 ≤ alP (bnG b p) ps ps.length ∧ alP (bnG b p) ps ps.length ≤ 8000 := by
  have h1 := alS_in (f := bnG b p) (ps := ps) (fun x hx => (hm x hx).2) ps.length (by omega)
  have h2 := alP_in (bnG b p) ps ps.length (by omega)
  omega
set_option maxHeartbeats 4000000 in
theorem DispersionsOf_any (ps : List Pt) (x : Sch) (b : Int) (a : Option Addr) (n c : Nat) (w : World) (hn : n ≤ 1048576) (hl : ps.length = n) (hr : Rd Pt.enc 2 w a ps) : Calls Tryz.prog 8 #[.slice a n c, .agg #[.int .i64 x.frm, .int .i64 x.til, .int .i64 x.stp], .int .i64 b] w fun e w' => DslP ps x b w e w' := by
  have HL := Lib.hid hl
  have HR := Lib.hid hr
  clear hl hr
  go_enter Tryz.func8, Tryz.ntmps8
  have HX1 := CAt.new w #[.int .i64 x.frm, .int .i64 x.til, .int .i64 x.stp] 26
  have hb2 := (Below.refl w.heap.size w).alloc (Nat.le_refl _) (.cells #[.int .i64 x.frm, .int .i64 x.til, .int .i64 x.stp] 26)
  obtain ⟨wv4, HW5⟩ : ∃ wx, w.alloc (.cells #[.int .i64 x.frm, .int .i64 x.til, .int .i64 x.stp] 26) = wx := ⟨_, rfl⟩
  obtain ⟨g3, HG6⟩ : ∃ gx, w.heap.size = gx := ⟨_, rfl⟩
  rw [HW5] at HX1 hb2
  rw [HG6] at HX1
  have hge7 : w.heap.size ≤ g3 := by rw [← HG6]; exact Nat.le_refl _
  have HX1_ := Lib.hid HX1
  clear HX1
  have HX1 := HX1_
  clear HX1_
  have HW5_ := Lib.hid HW5
  clear HW5
  have HW5 := HW5_
  clear HW5_
  have HG6_ := Lib.hid HG6
  clear HG6
  have HG6 := HG6_
  clear HG6_
  have HB8 : Hid (Below w.heap.size w wv4) := Lib.hid hb2
  clear hb2
  go_upto_region 1 with (fail)
  rw [HW5.out]
  rw [HG6.out]
  have c9 : wv4.cell? ⟨g3, 0, none⟩ = some (.int .i64 x.frm) := HX1.out.cell 0
  have c10 : wv4.cell? ⟨g3, 1, none⟩ = some (.int .i64 x.til) := HX1.out.cell 1
  have c11 : wv4.cell? ⟨g3, 2, none⟩ = some (.int .i64 x.stp) := HX1.out.cell 2
  go_wp2_with fail
  refine (searchBins_any ps x b a n c _ hn HL.out (HR.out.below HB8.out)).mono ?_
  rintro e wv12 ⟨rfl, hb13⟩
  clear c9 c10 c11
  have HB14 : Hid (Below w.heap.size w wv12) := Lib.hid (HB8.out.trans (hb13.mono HB8.out.size))
  have HX15 := Lib.hid (HX1.out.below hb13)
  clear hb13
  by_cases hsa : saC ps x b = 0
  · have d16 : (saC ps x b != 0) = false := bne_eq_false_iff_eq.2 hsa
    have hbx21 : g3 < wv12.heap.size := HX15.out.lt
    have HO17 := Ow.built Frac.enc 2 wv12 45
    have hb20 := below_built wv12 45
    obtain ⟨wv18, HW19⟩ : ∃ wx, (wv12.alloc (.cells #[] 45)) = wx := ⟨_, rfl⟩
    rw [HW19] at HO17 hb20
    have HO17_ := Lib.hid HO17
    clear HO17
    have HO17 := HO17_
    clear HO17_
    have HW19_ := Lib.hid HW19
    clear HW19
    have HW19 := HW19_
    clear HW19_
    have hsz22 : wv12.heap.size ≤ wv18.heap.size := hb20.size
    have HB23 : Hid (Below w.heap.size w wv18) := Lib.hid (HB14.out.trans (hb20.mono HB14.out.size))
    have HX24 := Lib.hid (HX15.out.below hb20)
    clear hb20
    go_upto_region 5 with (fail)
    rw [HW19.out]
    clear HW19
    have c25 : wv18.cell? ⟨g3, 0, none⟩ = some (.int .i64 x.frm) := HX24.out.cell 0
    have c26 : wv18.cell? ⟨g3, 1, none⟩ = some (.int .i64 x.til) := HX24.out.cell 1
    have c27 : wv18.cell? ⟨g3, 2, none⟩ = some (.int .i64 x.stp) := HX24.out.cell 2
    go_wp2_with fail
    have hsa0 : saC ps x b = 0 := by simpa using hsa
    have HSA := Lib.hid hsa0
    obtain ⟨hok, hxo, hbb, hn40⟩ := saC_parts hsa0
    have HXO := Lib.hid hxo
    have hc1 := (perC_in hxo).1
    have hc5 := (perC_in hxo).2
    have v1 := hxo.1
    have v2 := hxo.2.1
    have v3 := hxo.2.2.1
    have v4 := hxo.2.2.2.1
    have v5 := hxo.2.2.2.2.1
    have HMM := Lib.hid (allOk_mem hok).2
    have hn9 : n ≤ 40 := by rw [← HL.out]; exact hn40
    clear hok hxo hn40 hsa0
    have HLP : Hid ((perL x (perC x)).length = perC x) := Lib.hid (perL_len _ _)
    have hlo : ∀ q, Value.ownBlock (.slice (some ⟨wv12.heap.size, 0, none⟩) 0 0) = some q → q < wv18.heap.size := fun q hq => (HO17.out.lt q hq).2
    refine (periods_own x HXO.out _).mono ?_
    rintro e wv28 ⟨ap, cp, rfl, hoD, hb29⟩
    clear c25 c26 c27
    have HB30 : Hid (Below w.heap.size w wv28) := Lib.hid (HB23.out.trans (hb29.mono HB23.out.size))
    have HX31 := Lib.hid (HX24.out.below hb29)
    have HO32 := Lib.hid (HO17.out.below hb29)
    have hsz33 : wv12.heap.size ≤ wv28.heap.size := Nat.le_trans hsz22 (hb29).size
    clear hb29
    obtain ⟨gD, rfl, hgD, hgE⟩ := hoD.at_ (by omega)
    have HRP := Lib.hid (hoD.rd eI_len (by decide))
    have HGL : Hid (∀ wq, Rd eI 1 wq (some ⟨gD, 0, none⟩) (perL x (perC x)) → gD < wq.heap.size) := Lib.hid (fun wq hq => by obtain ⟨y, hy⟩ : ∃ y, (perL x (perC x))[0]? = some y := ⟨_, List.getElem?_eq_getElem (by rw [HLP.out]; omega)⟩; obtain ⟨b, o, he, hlt, _⟩ := hq 0 y hy; cases he; exact hlt)
    have HNE0 : Hid (Value.ownBlock (.slice (some ⟨wv12.heap.size, 0, none⟩) 0 0) ≠ some gD) := Lib.hid (fun h9 => by have := hlo gD h9; omega)
    clear hoD hlo hgD hgE
    go_wp2_with fail
    go_loopw [9, 25] (fun v9 i wr => ∃ (k : Nat) (aO : Option Addr) (cO : Nat), k ≤ perC x ∧ i = .int .i64 k ∧ Hid (Value.ownBlock (.slice aO k cO) ≠ some gD) ∧ v9 = .slice aO k cO ∧ Hid (Ow Frac.enc 2 wr wv12.heap.size 45 (.slice aO k cO) k (dsL ps b.toNat x k)) ∧ wv12.heap.size ≤ wr.heap.size ∧ Hid (Rd eI 1 wr (some ⟨gD, 0, none⟩) (perL x (perC x))) ∧ Hid (CAt wr g3 #[.int .i64 x.frm, .int .i64 x.til, .int .i64 x.stp] 26) ∧ Hid (Below w.heap.size w wr)) (fun _ i _ => perC x - (intOf i).toNat)
    case atStart => exact ⟨0, _, _, Nat.zero_le _, rfl, HNE0, rfl, HO32, hsz33, HRP, HX31, HB30⟩
    case round =>
      obtain ⟨k, aO, cO, hk, rfl, HNE, rfl, HOk, hszk, HRk34, HXk35, HBk⟩ := hrel
      obtain ⟨wr36, hwr⟩ : ∃ wx, wx = wr := ⟨_, rfl⟩
      subst hwr
      have HB37 := HBk
      clear HBk
      by_cases hlt : k < perC x
      · obtain ⟨p, hx⟩ : ∃ z, (perL x (perC x))[k]? = some z := ⟨_, List.getElem?_eq_getElem (by rw [HLP.out]; omega)⟩
        have HXp := Lib.hid hx
        clear hx
        have hpe : p = perAt x k := by have h9 := HXp.out; rw [perL_at x hlt] at h9; exact (Option.some.inj h9).symm
        have HVP : Hid (vaC ps p b = 0) := Lib.hid (by rw [hpe]; exact saC_at HSA.out hlt)
        obtain ⟨FF, hFF⟩ : ∃ z, fdF (bnG b.toNat p) ps n = z := ⟨_, rfl⟩
        obtain ⟨FN, hFN⟩ : ∃ z, FF.num = z := ⟨_, rfl⟩
        obtain ⟨FD, hFD⟩ : ∃ z, FF.den = z := ⟨_, rfl⟩
        obtain ⟨FB, hFB⟩ : ∃ z, fdB (bnG b.toNat p) ps n = z := ⟨_, rfl⟩
        have HDI : Hid (∀ (wq : World) (aq : Option Addr) (cq : Nat), Rd Pt.enc 2 wq aq ps → Calls Tryz.prog 23 #[.slice aq n cq, .int .i64 p, .int .i64 b] wq fun e w' => e = .returned (.tuple #[.agg #[.int .i64 FN, .int .i64 FD], .bool FB]) ∧ Below wq.heap.size wq w') := Lib.hid fun wq aq cq hq => by have h9 := dispersionZ ps p b aq n cq wq HVP.out HL.out hq; rw [hFF, hFN, hFD, hFB] at h9; exact h9
        have HFE : Hid (fdF (bnG b.toNat (perAt x k)) ps ps.length = ⟨FN, FD⟩) := Lib.hid (by rw [← hpe, HL.out, hFF, ← hFN, ← hFD])
        clear hpe hFF hFN hFD hFB
        obtain ⟨b39, o40, hab, HC38⟩ := HRk34.out.addr1 (by rw [HLP.out]; omega) (fun _ => rfl)
        have HC38_ := Lib.hid HC38
        clear HC38
        have HC38 := HC38_
        clear HC38_
        cases hab
        have c41 : wr36.cell? ⟨gD, k, none⟩ = some (.int .i64 p) := by have h9 := HC38.out k p HXp.out wr36 (Below.refl _ _); rwa [Nat.zero_add] at h9
        have j42 : (0 : Int) ≤ (k : Nat) := by omega
        have j43 : ((k : Nat) : Int) < perC x := by omega
        go_wp2_with fail
        refine ((HDI.out _ a c (HR.out.below HB37.out))).mono ?_
        rintro e wv44 ⟨rfl, hb45⟩
        clear c41 j42 j43
        have HB46 : Hid (Below w.heap.size w wv44) := Lib.hid (HB37.out.trans (hb45.mono HB37.out.size))
        have HX47 := Lib.hid (HXk35.out.below hb45)
        have HO48 := Lib.hid (HOk.out.below hb45)
        have hsz49 : wv12.heap.size ≤ wv44.heap.size := Nat.le_trans hszk (hb45).size
        have HR50 := Lib.hid (HRk34.out.below hb45)
        clear hb45
        have HX51 := CAt.new wv44 #[.int .i64 FN, .int .i64 FD] 45
        have hb52 := (Below.refl wv44.heap.size wv44).alloc (Nat.le_refl _) (.cells #[.int .i64 FN, .int .i64 FD] 45)
        obtain ⟨wv54, HW55⟩ : ∃ wx, wv44.alloc (.cells #[.int .i64 FN, .int .i64 FD] 45) = wx := ⟨_, rfl⟩
        obtain ⟨g53, HG56⟩ : ∃ gx, wv44.heap.size = gx := ⟨_, rfl⟩
        rw [HW55] at HX51 hb52
        rw [HG56] at HX51
        have hge57 : w.heap.size ≤ g53 := by rw [← HG56]; exact HB46.out.size
        have hlt58 : g3 < g53 := by rw [← HG56]; exact HX47.out.lt
        have HX51_ := Lib.hid HX51
        clear HX51
        have HX51 := HX51_
        clear HX51_
        have HW55_ := Lib.hid HW55
        clear HW55
        have HW55 := HW55_
        clear HW55_
        have HG56_ := Lib.hid HG56
        clear HG56
        have HG56 := HG56_
        clear HG56_
        have HB59 : Hid (Below w.heap.size w wv54) := Lib.hid (HB46.out.trans (hb52.mono HB46.out.size))
        have HX60 := Lib.hid (HX47.out.below hb52)
        have HO61 := Lib.hid (HO48.out.below hb52)
        have hsz62 : wv12.heap.size ≤ wv54.heap.size := Nat.le_trans hsz49 (hb52).size
        have HR63 := Lib.hid (HR50.out.below hb52)
        clear hb52
        go_upto_region 9 with (fail)
        rw [HW55.out]
        rw [HG56.out]
        have c65 : wv54.cell? ⟨g53, 0, none⟩ = some (.int .i64 FN) := HX51.out.cell 0
        have c66 : wv54.cell? ⟨g53, 1, none⟩ = some (.int .i64 FD) := HX51.out.cell 1
        have h63 : k + 1 ≤ maxLen := by unfold maxLen; omega
        have hby : (k + 1) * 16 ≤ 140737488355328 := by omega
        obtain ⟨ys73, hys⟩ : ∃ ys, dsL ps b.toNat x k ++ [(⟨FN, FD⟩ : Frac)] = ys := ⟨_, rfl⟩
        have HYS67 := Lib.hid hys
        clear hys
        have hsz9 : wv12.heap.size ≤ wv54.heap.size := hsz62
        go_wp2_with (at_builtin; refine wpl_appL Frac.len (by decide) _ rfl (.tmp 36) (.tmp 38) 31 rfl 45 _ 16 rfl Tryz.underlying31 infoFr wv12.heap.size (.slice aO k cO) k _ rfl wv54 _ _ rfl HO61.out (⟨FN, FD⟩ : Frac) rfl rfl (Frac.one _) h63 hby hsz9 ys73 HYS67 ?_)
        intro g71 c72 wv70 ho9 hb9 hat9 hot9
        have HO68 := Lib.hid ho9
        have HB69 : Hid (Below w.heap.size w wv70) := Lib.hid (HB59.out.trans (hb9.mono HB14.out.size))
        have hsz74 : wv12.heap.size ≤ wv70.heap.size := Nat.le_trans hsz62 hb9.size
        have HX75 := Lib.hid (HX60.out.belowN hb9 hbx21)
        clear c65 c66
        have HNE76 : Hid (Value.ownBlock (.slice (some ⟨g71, 0, none⟩) (k + 1) c72) ≠ some gD) := Lib.hid (fun h9 => by have h8 : g71 = gD := Option.some.inj h9; rcases hat9 with h7 | h7; exact HNE.out (by rw [h7, h8]); have h6 := HGL.out _ HR63.out; omega)
        have HR77 := Lib.hid (HR63.out.otherI (fun hlt9 => hot9 gD hlt9 HNE.out))
        clear ho9 hb9 hat9 hot9 h63 hby hsz9
        have i78 : IntKind.i64.wrap ((k : Int) + 1) = (k : Int) + 1 := IntWalk.i64_in _ (by omega)
        go_wp2_with fail
        have HLS : Hid (dsL ps b.toNat x (k + 1) = ys73) := Lib.hid (by rw [dsL_succ, HFE.out, HYS67.out])
        go_roundw
        case rel => exact ⟨k + 1, _, _, by omega, by go_num, HNE76, rfl, Lib.hid (by rw [HLS.out]; exact HO68.out), hsz74, HR77, HX75, HB69⟩
        case measure => simp [intOf] <;> omega
      · have hkn : k = perC x := by omega
        have HKN := Lib.hid hkn
        clear hkn
        go_wp2_with fail
        go_ret2
        exact DslP.good HSA.out HKN.out (HOk.out.rd Frac.len (by decide)) HB37.out
  · have d79 : (saC ps x b != 0) = true := bne_iff_ne.2 hsa
    go_wp2_with fail
    go_ret2
    exact DslP.bad (by simpa using hsa) HB14.out
set_option maxHeartbeats 4000000 in
theorem spDispersionsOf (ps : List Pt) (x : Sch) (b : Int) (a : Option Addr) (n c : Nat) (w : World) (hn : n ≤ 1048576) (hl : ps.length = n) (hr : Rd Pt.enc 2 w a ps) : Calls Tryz.prog 9 #[.slice a n c, .agg #[.int .i64 x.frm, .int .i64 x.til, .int .i64 x.stp], .int .i64 b] w fun e w' => DslP ps x b w e w' := by
  have HL := Lib.hid hl
  have HR := Lib.hid hr
  clear hl hr
  go_enter Tryz.func9, Tryz.ntmps9
  have HX1 := CAt.new w #[.int .i64 x.frm, .int .i64 x.til, .int .i64 x.stp] 26
  have hb2 := (Below.refl w.heap.size w).alloc (Nat.le_refl _) (.cells #[.int .i64 x.frm, .int .i64 x.til, .int .i64 x.stp] 26)
  obtain ⟨wv4, HW5⟩ : ∃ wx, w.alloc (.cells #[.int .i64 x.frm, .int .i64 x.til, .int .i64 x.stp] 26) = wx := ⟨_, rfl⟩
  obtain ⟨g3, HG6⟩ : ∃ gx, w.heap.size = gx := ⟨_, rfl⟩
  rw [HW5] at HX1 hb2
  rw [HG6] at HX1
  have hge7 : w.heap.size ≤ g3 := by rw [← HG6]; exact Nat.le_refl _
  have HX1_ := Lib.hid HX1
  clear HX1
  have HX1 := HX1_
  clear HX1_
  have HW5_ := Lib.hid HW5
  clear HW5
  have HW5 := HW5_
  clear HW5_
  have HG6_ := Lib.hid HG6
  clear HG6
  have HG6 := HG6_
  clear HG6_
  have HB8 : Hid (Below w.heap.size w wv4) := Lib.hid hb2
  clear hb2
  go_upto_region 1 with (fail)
  rw [HW5.out]
  rw [HG6.out]
  have c9 : wv4.cell? ⟨g3, 0, none⟩ = some (.int .i64 x.frm) := HX1.out.cell 0
  have c10 : wv4.cell? ⟨g3, 1, none⟩ = some (.int .i64 x.til) := HX1.out.cell 1
  have c11 : wv4.cell? ⟨g3, 2, none⟩ = some (.int .i64 x.stp) := HX1.out.cell 2
  go_wp2_with fail
  refine (l11Ask_any ps x b a n c _ hn HL.out (HR.out.below HB8.out)).mono ?_
  rintro e wv12 ⟨rfl, hb13⟩
  clear c9 c10 c11
  have HB14 : Hid (Below w.heap.size w wv12) := Lib.hid (HB8.out.trans (hb13.mono HB8.out.size))
  have HX15 := Lib.hid (HX1.out.below hb13)
  clear hb13
  by_cases hsa : saC ps x b = 0
  · have d16 : (saC ps x b != 0) = false := bne_eq_false_iff_eq.2 hsa
    have hsa0 : saC ps x b = 0 := by simpa using hsa
    have HSA := Lib.hid hsa0
    obtain ⟨hok, hxo, hbb, hn40⟩ := saC_parts hsa0
    have HXO := Lib.hid hxo
    have hc1 := (perC_in hxo).1
    have hc5 := (perC_in hxo).2
    have v1 := hxo.1
    have v2 := hxo.2.1
    have v3 := hxo.2.2.1
    have v4 := hxo.2.2.2.1
    have v5 := hxo.2.2.2.2.1
    have HMM := Lib.hid (allOk_mem hok).2
    have hn9 : n ≤ 40 := by rw [← HL.out]; exact hn40
    clear hok hxo hn40 hsa0
    have hbx21 : g3 < wv12.heap.size := HX15.out.lt
    have HO17 := Ow.built Frac.enc 2 wv12 45
    have hb20 := below_built wv12 45
    obtain ⟨wv18, HW19⟩ : ∃ wx, (wv12.alloc (.cells #[] 45)) = wx := ⟨_, rfl⟩
    rw [HW19] at HO17 hb20
    have HO17_ := Lib.hid HO17
    clear HO17
    have HO17 := HO17_
    clear HO17_
    have HW19_ := Lib.hid HW19
    clear HW19
    have HW19 := HW19_
    clear HW19_
    have hsz22 : wv12.heap.size ≤ wv18.heap.size := hb20.size
    have HB23 : Hid (Below w.heap.size w wv18) := Lib.hid (HB14.out.trans (hb20.mono HB14.out.size))
    have HX24 := Lib.hid (HX15.out.below hb20)
    clear hb20
    go_upto_region 5 with (fail)
    rw [HW19.out]
    clear HW19
    have c25 : wv18.cell? ⟨g3, 0, none⟩ = some (.int .i64 x.frm) := HX24.out.cell 0
    have c26 : wv18.cell? ⟨g3, 1, none⟩ = some (.int .i64 x.til) := HX24.out.cell 1
    have c27 : wv18.cell? ⟨g3, 2, none⟩ = some (.int .i64 x.stp) := HX24.out.cell 2
    go_wp2_with fail
    go_loopw [9, 10] (fun vo vp wr => ∃ (k : Nat) (aO : Option Addr) (cO : Nat), k ≤ perC x ∧ vp = .int .i64 (perAt x k) ∧ vo = .slice aO k cO ∧ Hid (Ow Frac.enc 2 wr wv12.heap.size 45 (.slice aO k cO) k (dsL ps b.toNat x k)) ∧ wv12.heap.size ≤ wr.heap.size ∧ Hid (CAt wr g3 #[.int .i64 x.frm, .int .i64 x.til, .int .i64 x.stp] 26) ∧ Hid (Below w.heap.size w wr)) (fun _ vp _ => 1000001 - (intOf vp).toNat)
    case atStart => exact ⟨0, _, _, Nat.zero_le _, by rw [perAt_zero], rfl, HO17, hsz22, HX24, HB23⟩
    case round =>
      obtain ⟨k, aO, cO, hk, rfl, rfl, HOk, hszk, HXk28, HBk⟩ := hrel
      obtain ⟨wr29, hwr⟩ : ∃ wx, wx = wr := ⟨_, rfl⟩
      subst hwr
      have HB30 := HBk
      clear HBk
      by_cases hlt : perAt x k ≤ x.til
      · have hlk : k < perC x := (perAt_le HXO.out k).1 hlt
        have hp1 := perAt_pos HXO.out k
        have dlt : decide (perAt x k ≤ x.til) = true := decide_eq_true hlt
        obtain ⟨SS, hSS⟩ : ∃ z, alS (bnG b.toNat (perAt x k)) ps n = z := ⟨_, rfl⟩
        obtain ⟨PP, hPP⟩ : ∃ z, alP (bnG b.toNat (perAt x k)) ps n = z := ⟨_, rfl⟩
        have hin9 := bS_in (b := b.toNat) (p := perAt x k) HMM.out (by rw [HL.out]; exact hn9)
        rw [HL.out, hSS, hPP] at hin9
        obtain ⟨q0, q1, q2, q3⟩ := hin9
        have HDI : Hid (∀ (wq : World) (aq : Option Addr) (cq : Nat), Rd Pt.enc 2 wq aq ps → Calls Tryz.prog 27 #[.slice aq n cq, .int .i64 (perAt x k), .int .i64 b] wq fun e w' => e = .returned (.tuple #[.int .i64 SS, .int .i64 PP]) ∧ Below wq.heap.size wq w') := Lib.hid fun wq aq cq hq => by have h9 := l11InsideZ ps (perAt x k) b aq n cq wq (saC_at HSA.out hlk) HL.out hq; rw [hSS, hPP] at h9; exact h9
        have HFE : Hid (fdF (bnG b.toNat (perAt x k)) ps ps.length = if PP = 0 then ⟨0, 0⟩ else frF SS PP) := Lib.hid (by unfold fdF; rw [HL.out, hSS, hPP])
        clear hSS hPP
        have c31 : wr29.cell? ⟨g3, 0, none⟩ = some (.int .i64 x.frm) := HXk28.out.cell 0
        have c32 : wr29.cell? ⟨g3, 1, none⟩ = some (.int .i64 x.til) := HXk28.out.cell 1
        have c33 : wr29.cell? ⟨g3, 2, none⟩ = some (.int .i64 x.stp) := HXk28.out.cell 2
        go_wp2_with fail
        refine ((HDI.out _ a c (HR.out.below HB30.out))).mono ?_
        rintro e wv34 ⟨rfl, hb35⟩
        clear c31 c32 c33
        have HB36 : Hid (Below w.heap.size w wv34) := Lib.hid (HB30.out.trans (hb35.mono HB30.out.size))
        have HX37 := Lib.hid (HXk28.out.below hb35)
        have HO38 := Lib.hid (HOk.out.below hb35)
        have hsz39 : wv12.heap.size ≤ wv34.heap.size := Nat.le_trans hszk (hb35).size
        clear hb35
        by_cases hpz : PP = 0
        · have d40 : (PP == 0) = true := beq_iff_eq.2 hpz
          have h63 : k + 1 ≤ maxLen := by unfold maxLen; omega
          have hby : (k + 1) * 16 ≤ 140737488355328 := by omega
          obtain ⟨ys47, hys⟩ : ∃ ys, dsL ps b.toNat x k ++ [(⟨0, 0⟩ : Frac)] = ys := ⟨_, rfl⟩
          have HYS41 := Lib.hid hys
          clear hys
          have hsz9 : wv12.heap.size ≤ wv34.heap.size := hsz39
          go_wp2_with (at_builtin; go_loud (refine wpl_app Frac.len (by decide) _ rfl (.tmp 40) (.tmp 42) 31 rfl 45 _ 16 rfl Tryz.underlying31 Tryz.info45 wv12.heap.size _ k _ rfl wv34 _ _ rfl HO38.out (⟨0, 0⟩) rfl rfl (Frac.one _) h63 hby hsz9 ys47 HYS41 ?_))
          intro a45 c46 wv44 ho9 hb9 hs9
          have HO42 := Lib.hid ho9
          have HB43 : Hid (Below w.heap.size w wv44) := Lib.hid (HB36.out.trans (hb9.mono HB14.out.size))
          have hsz48 : wv12.heap.size ≤ wv44.heap.size := Nat.le_trans hsz39 (Nat.le_of_lt hs9)
          have HX49 := Lib.hid (HX37.out.belowN hb9 hbx21)
          clear ho9 hb9 h63 hby hsz9 hs9
          have c50 : wv44.cell? ⟨g3, 0, none⟩ = some (.int .i64 x.frm) := HX49.out.cell 0
          have c51 : wv44.cell? ⟨g3, 1, none⟩ = some (.int .i64 x.til) := HX49.out.cell 1
          have c52 : wv44.cell? ⟨g3, 2, none⟩ = some (.int .i64 x.stp) := HX49.out.cell 2
          have i53 : IntKind.i64.wrap ((perAt x k) + x.stp) = (perAt x k) + x.stp := IntWalk.i64_in _ (by omega)
          go_wp2_with fail
          have HLS : Hid (dsL ps b.toNat x (k + 1) = ys47) := Lib.hid (by rw [dsL_succ, HFE.out, if_pos (by simpa using hpz), HYS41.out])
          have HSP : Hid (perAt x (k + 1) = (perAt x k) + x.stp) := Lib.hid (perAt_succ x k)
          go_roundw
          case rel => exact ⟨k + 1, _, _, by omega, by rw [HSP.out], rfl, Lib.hid (by rw [HLS.out]; exact HO42.out), hsz48, HX49, HB43⟩
          case measure => rw [show intOf (.int .i64 (perAt x k + x.stp)) = perAt x k + x.stp from rfl, show intOf (.int .i64 (perAt x k)) = perAt x k from rfl]; omega
        · have d54 : (PP == 0) = false := beq_eq_false_iff_ne.2 hpz
          go_wp2_with fail
          obtain ⟨FN, hFN⟩ : ∃ z, (frF SS PP).num = z := ⟨_, rfl⟩
          obtain ⟨FD, hFD⟩ : ∃ z, (frF SS PP).den = z := ⟨_, rfl⟩
          have HFN := Lib.hid hFN
          have HFD := Lib.hid hFD
          have HFE2 : Hid (frF SS PP = ⟨FN, FD⟩) := Lib.hid (by rw [← hFN, ← hFD])
          clear hFN hFD
          refine (makeI SS PP _ (by omega) (by omega) (by omega)).mono ?_
          rintro e wv55 ⟨rfl, hb56⟩
          have HB57 : Hid (Below w.heap.size w wv55) := Lib.hid (HB36.out.trans (hb56.mono HB36.out.size))
          have HX58 := Lib.hid (HX37.out.below hb56)
          have HO59 := Lib.hid (HO38.out.below hb56)
          have hsz60 : wv12.heap.size ≤ wv55.heap.size := Nat.le_trans hsz39 (hb56).size
          clear hb56
          rw [HFN.out, HFD.out]
          have h63 : k + 1 ≤ maxLen := by unfold maxLen; omega
          have hby : (k + 1) * 16 ≤ 140737488355328 := by omega
          obtain ⟨ys67, hys⟩ : ∃ ys, dsL ps b.toNat x k ++ [(⟨FN, FD⟩ : Frac)] = ys := ⟨_, rfl⟩
          have HYS61 := Lib.hid hys
          clear hys
          have hsz9 : wv12.heap.size ≤ wv55.heap.size := hsz60
          go_wp2_with (at_builtin; go_loud (refine wpl_app Frac.len (by decide) _ rfl (.tmp 44) (.tmp 48) 31 rfl 45 _ 16 rfl Tryz.underlying31 Tryz.info45 wv12.heap.size _ k _ rfl wv55 _ _ rfl HO59.out (⟨FN, FD⟩) rfl rfl (Frac.one _) h63 hby hsz9 ys67 HYS61 ?_))
          intro a65 c66 wv64 ho9 hb9 hs9
          have HO62 := Lib.hid ho9
          have HB63 : Hid (Below w.heap.size w wv64) := Lib.hid (HB57.out.trans (hb9.mono HB14.out.size))
          have hsz68 : wv12.heap.size ≤ wv64.heap.size := Nat.le_trans hsz60 (Nat.le_of_lt hs9)
          have HX69 := Lib.hid (HX58.out.belowN hb9 hbx21)
          clear ho9 hb9 h63 hby hsz9 hs9
          have c70 : wv64.cell? ⟨g3, 0, none⟩ = some (.int .i64 x.frm) := HX69.out.cell 0
          have c71 : wv64.cell? ⟨g3, 1, none⟩ = some (.int .i64 x.til) := HX69.out.cell 1
          have c72 : wv64.cell? ⟨g3, 2, none⟩ = some (.int .i64 x.stp) := HX69.out.cell 2
          have i73 : IntKind.i64.wrap ((perAt x k) + x.stp) = (perAt x k) + x.stp := IntWalk.i64_in _ (by omega)
          go_wp2_with fail
          have HLS : Hid (dsL ps b.toNat x (k + 1) = ys67) := Lib.hid (by rw [dsL_succ, HFE.out, if_neg (by simpa using hpz), HFE2.out, HYS61.out])
          have HSP : Hid (perAt x (k + 1) = (perAt x k) + x.stp) := Lib.hid (perAt_succ x k)
          go_roundw
          case rel => exact ⟨k + 1, _, _, by omega, by rw [HSP.out], rfl, Lib.hid (by rw [HLS.out]; exact HO62.out), hsz68, HX69, HB63⟩
          case measure => rw [show intOf (.int .i64 (perAt x k + x.stp)) = perAt x k + x.stp from rfl, show intOf (.int .i64 (perAt x k)) = perAt x k from rfl]; omega
      · have hkn : k = perC x := by have h1 := (perAt_le HXO.out k); omega
        have dlt : decide (perAt x k ≤ x.til) = false := decide_eq_false hlt
        have HKN := Lib.hid hkn
        clear hkn
        have c74 : wr29.cell? ⟨g3, 0, none⟩ = some (.int .i64 x.frm) := HXk28.out.cell 0
        have c75 : wr29.cell? ⟨g3, 1, none⟩ = some (.int .i64 x.til) := HXk28.out.cell 1
        have c76 : wr29.cell? ⟨g3, 2, none⟩ = some (.int .i64 x.stp) := HXk28.out.cell 2
        go_wp2_with fail
        go_ret2
        exact DslP.good HSA.out HKN.out (HOk.out.rd Frac.len (by decide)) HB30.out
  · have d77 : (saC ps x b != 0) = true := bne_iff_ne.2 hsa
    go_wp2_with fail
    go_ret2
    exact DslP.bad (by simpa using hsa) HB14.out
end Go.Proofs.YthmiahekijeehaaGreat
