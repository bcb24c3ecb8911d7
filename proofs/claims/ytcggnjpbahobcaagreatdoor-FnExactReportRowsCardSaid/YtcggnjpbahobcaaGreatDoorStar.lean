/-
  The row of a star in a report, in the program and in the reference.
-/
import Derived.Test.YtcggnjpbahobcaaGreatDoorEst3
import Derived.Test.YtcggnjpbahobcaaGreatDoorMM
import Derived.Test.YtcggnjpbahobcaaGreatDoorMagT
import Derived.Test.YtcggnjpbahobcaaGreatDoorMin
import Derived.Test.YtcggnjpbahobcaaGreatDoorQTail
namespace Go.Proofs.YtcggnjpbahobcaaGreatDoor
open Go.RowKit
set_option maxRecDepth 100000

def isStar (s : ByteArray) (e : Est) : Bool := e.star.toList == s.toList
def ownE (es : List Est) (s : ByteArray) : List Est := es.filter (isStar s)
def magE (l : List Est) : List Int := (l.filter fun e => !e.fnt).map (·.mag)
def rowE (es : List Est) (s : ByteArray) : List ByteArray :=
  if magE (ownE es s) = [] then [s, decB ((ownE es s).length : Int), ⟨#[45]⟩, ⟨#[45]⟩]
  else [s, decB ((ownE es s).length : Int), magB (minL (magE (ownE es s))), magB (maxL (magE (ownE es s)))]
theorem rowE_no {es : List Est} {s : ByteArray} (h : magE (ownE es s) = []) : rowE es s = [s, decB ((ownE es s).length : Int), ⟨#[45]⟩, ⟨#[45]⟩] := by unfold rowE; rw [if_pos h]
theorem rowE_yes {es : List Est} {s : ByteArray} (h : magE (ownE es s) ≠ []) : rowE es s = [s, decB ((ownE es s).length : Int), magB (minL (magE (ownE es s))), magB (maxL (magE (ownE es s)))] := by unfold rowE; rw [if_neg h]
theorem rowE_len (es : List Est) (s : ByteArray) : (rowE es s).length = 4 := by unfold rowE; split <;> rfl
theorem ownE_yes {es : List Est} {s : ByteArray} {k : Nat} {x : Est} (hx : es[k]? = some x) (h : isStar s x = true) : ownE (es.take (k + 1)) s = ownE (es.take k) s ++ [x] := by
  obtain ⟨h1, h2⟩ := List.getElem?_eq_some_iff.1 hx
  unfold ownE
  rw [List.take_succ_eq_append_getElem h1, h2, List.filter_append]
  simp [h]
theorem ownE_no {es : List Est} {s : ByteArray} {k : Nat} {x : Est} (hx : es[k]? = some x) (h : isStar s x = false) : ownE (es.take (k + 1)) s = ownE (es.take k) s := by
  obtain ⟨h1, h2⟩ := List.getElem?_eq_some_iff.1 hx
  unfold ownE
  rw [List.take_succ_eq_append_getElem h1, h2, List.filter_append]
  simp [h]
theorem magE_yes (l : List Est) (x : Est) (h : x.fnt = false) : magE (l ++ [x]) = magE l ++ [x.mag] := by
  unfold magE
  rw [List.filter_append, List.map_append]
  simp [h]
theorem magE_no (l : List Est) (x : Est) (h : x.fnt = true) : magE (l ++ [x]) = magE l := by
  unfold magE
  rw [List.filter_append, List.map_append]
  simp [h]
theorem magE_len (l : List Est) : (magE l).length ≤ l.length := by unfold magE; rw [List.length_map]; exact List.length_filter_le _ _
theorem ownE_len (l : List Est) (s : ByteArray) : (ownE l s).length ≤ l.length := List.length_filter_le _ _
theorem estsB_at {es : List Est} {x : Est} (h : estsB es = true) (hx : x ∈ es) : estB x = true := by
  obtain ⟨i, hi⟩ := List.mem_iff_getElem?.1 hx
  cases hb : estB x with
  | true => rfl
  | false => rw [estsB_bad (List.getElem?_eq_some_iff.1 hi).1 (okE_bad hi hb)] at h; cases h
theorem estsB_len {es : List Est} (h : estsB es = true) : es.length ≤ 100 := by
  unfold estsB at h
  simp only [Bool.and_eq_true, decide_eq_true_eq] at h
  exact h.1
theorem estB_mag {x : Est} (h : estB x = true) : -2000 ≤ x.mag ∧ x.mag ≤ 20000 := by
  unfold estB at h
  simp only [Bool.and_eq_true] at h
  exact inB_iff.1 h.2.2.2
theorem magE_in {es : List Est} {s : ByteArray} (h : estsB es = true) : ∀ y ∈ magE (ownE es s), -2000 ≤ y ∧ y ≤ 20000 := by
  intro y hy
  unfold magE at hy
  obtain ⟨x, hx, rfl⟩ := List.mem_map.1 hy
  exact estB_mag (estsB_at h (List.mem_filter.1 (List.mem_filter.1 hx).1).1)
theorem magE_someC {es : List Est} {s : ByteArray} (h : estsB es = true) : someC (magE (ownE es s)) = if magE (ownE es s) = [] then 3 else 0 := by
  unfold someC
  rw [if_pos (magsB_of (by have := magE_len (ownE es s); have := ownE_len es s; have := estsB_len h; omega) (magE_in h))]
theorem Ow.four (w : World) (a b c d : ByteArray) (t : TypeId) : Ow eS 1 (w.alloc (.cells #[.string a, .string b, .string c, .string d] t)) w.heap.size t (.slice (some ⟨w.heap.size, 0, none⟩) 4 4) 4 [a, b, c, d] :=
  ⟨by simp [eS], .inr ⟨w.heap.size, 4, _, rfl, Nat.le_refl _, heap_alloc_new w _, Nat.le_refl _, by simp [maxLen], by simp, by simp [eS]⟩⟩
def AtE (w : World) (b o : Nat) (v : Est) : Prop := w.cell? ⟨b, o, none⟩ = some (.int .i64 v.time) ∧ w.cell? ⟨b, o + 1, none⟩ = some (.string v.star) ∧ w.cell? ⟨b, o + 2, none⟩ = some (.string v.obs) ∧ w.cell? ⟨b, o + 3, none⟩ = some (.int .i64 v.mag) ∧ w.cell? ⟨b, o + 4, none⟩ = some (.bool v.fnt)
theorem infoI64s : (Tryz.prog.info? 2).map (fun i => (i.zero, i.size, i.bytes)) = some (some (.int .i64 0), 1, 8) := by kernel_rfl
set_option maxHeartbeats 8000000 in
theorem l24Star_any (es : List Est) (s : ByteArray) (a : Option Addr) (n c : Nat) (w : World) (hv : estsB es = true) (hl : es.length = n) (hr : Rd Est.enc 5 w a es) :
    Calls Tryz.prog 16 #[.slice a n c, .string s] w fun e w' => ∃ a' c', e = .returned (.slice a' 4 c') ∧ Ow eS 1 w' w.heap.size 9 (.slice a' 4 c') 4 (rowE es s) ∧ Below w.heap.size w w' := by
  have hn : n ≤ 100 := by rw [← hl]; exact estsB_len hv
  have HL := Lib.hid hl
  have HR := Lib.hid hr
  have HMI := Lib.hid (magE_in (s := s) hv)
  have HON := Lib.hid (ownE_len es s)
  clear hl hr hv
  have hbb := below_built w 2
  have hbo := Ow.built eI 1 w 2
  have HBB := Lib.hid hbb
  have HBO := Lib.hid hbo
  clear hbb hbo
  go_enter Tryz.func16, Tryz.ntmps16
  go_wp2_with fail
  go_loopw [5, 6, 7] (fun q o i wr => ∃ (k m z : Nat) (a2 : Option Addr) (c2 : Nat), k ≤ n ∧ i = .int .i64 k ∧ q = .int .i64 (z : Int) ∧ Hid (z = (ownE (es.take k) s).length) ∧ z ≤ k ∧ m ≤ k ∧ o = .slice a2 m c2 ∧ Ow eI 1 wr w.heap.size 2 (.slice a2 m c2) m (magE (ownE (es.take k) s)) ∧ Below w.heap.size w wr) (fun _ _ i _ => n - (intOf i).toNat)
  case atStart => exact ⟨0, 0, 0, _, _, Nat.zero_le _, rfl, rfl, Lib.hid rfl, Nat.le_refl _, Nat.le_refl _, rfl, HBO.out, HBB.out⟩
  case round =>
    obtain ⟨k, m, z, a2, c2, hk, rfl, rfl, HZ, hzk, hmk, rfl, ho, hb⟩ := hrel
    by_cases hlt : k < n
    · obtain ⟨x, hx, htk⟩ := take_snoc' es k (by rw [HL.out]; exact hlt)
      clear htk
      obtain ⟨b, o, rfl, hbl, hc⟩ := HR.out.below hb k x hx
      have c1 := hc 1 _ rfl
      have c3 := hc 3 _ rfl
      have c4 := hc 4 _ rfl
      clear hc
      have HX := Lib.hid hx
      clear hx
      cases hst : isStar s x with
      | false =>
        have HY := Lib.hid (ownE_no HX.out hst)
        have d1 : (x.star.toList == s.toList) = false := hst
        rw [← HY.out] at ho
        have HZ2 : Hid (z = (ownE (es.take (k + 1)) s).length) := Lib.hid (by rw [HY.out]; exact HZ.out)
        clear hst
        go_wp2_with fail
        go_roundw
        case rel => exact ⟨k + 1, m, z, _, _, by omega, by go_num, rfl, HZ2, by omega, by omega, rfl, ho, hb⟩
        case measure => simp [intOf]; omega
      | true =>
        have HY := Lib.hid (ownE_yes HX.out hst)
        have d1 : (x.star.toList == s.toList) = true := hst
        have HZ2 : Hid (z + 1 = (ownE (es.take (k + 1)) s).length) := Lib.hid (by rw [HY.out, List.length_append, ← HZ.out]; rfl)
        clear hst
        cases hf : x.fnt with
        | true =>
          have HM := Lib.hid (magE_no (ownE (es.take k) s) x hf)
          rw [← HM.out, ← HY.out] at ho
          rw [hf] at c4
          clear hf
          go_wp2_with fail
          go_roundw
          case rel => exact ⟨k + 1, m, z + 1, _, _, by omega, by go_num, by go_num, HZ2, by omega, by omega, rfl, ho, hb⟩
          case measure => simp [intOf]; omega
        | false =>
          have HM : Hid (magE (ownE (es.take k) s) ++ [x.mag] = magE (ownE (es.take (k + 1)) s)) := Lib.hid (by rw [HY.out, magE_yes _ _ hf])
          rw [hf] at c4
          have h63 : m + 1 ≤ maxLen := by unfold maxLen; omega
          have hby : (m + 1) * 8 ≤ 140737488355328 := by omega
          clear hf
          go_wp2_with (at_builtin; refine wpl_app eI_len (by decide) _ rfl (.tmp 33) (.tmp 39) 52 rfl 2 (.int .i64 0) 8 rfl Tryz.underlying52 infoI64s w.heap.size _ m _ rfl wr _ 2 rfl ho x.mag rfl rfl (eI_one _) h63 hby hb.size _ HM ?_)
          intro a4 c5 w6 ho6 hb6 _
          have hb7 := hb.trans hb6
          clear ho hb hb6 c1 c3 c4
          go_wp2_with fail
          go_roundw
          case rel => exact ⟨k + 1, m + 1, z + 1, a4, c5, by omega, by go_num, by go_num, HZ2, by omega, by omega, by simp, ho6, hb7⟩
          case measure => simp [intOf]; omega
    · obtain rfl : k = n := by omega
      have htk : es.take k = es := List.take_of_length_le (by rw [HL.out]; exact Nat.le_refl _)
      rw [htk] at ho HZ
      have HMI2 := HMI
      have hml : (magE (ownE es s)).length = m := ho.len eI_len (by decide)
      have HML := Lib.hid hml
      have HD : Hid (∀ w', Calls Tryz.prog 28 #[.int .i64 (z : Int)] w' fun e w'' => e = .returned (.string (decB ((ownE es s).length : Int))) ∧ Below w'.heap.size w' w'') := Lib.hid fun w' => by rw [← HZ.out]; exact l01Dec_any _ (by unfold I64; omega) w'
      by_cases hm0 : m = 0
      · have HRW := Lib.hid (rowE_no (es := es) (s := s) (List.eq_nil_of_length_eq_zero (by omega)))
        have d1 : ((m : Int) == 0) = true := by rw [beq_iff_eq]; omega
        clear hml hm0 htk ho
        go_wp2_with fail
        refine (HD.out _).mono ?_
        rintro e w5 ⟨rfl, hb5⟩
        have hb6 := hb.trans (hb5.mono hb.size)
        have ho7 := Ow.four w5 s (decB ((ownE es s).length : Int)) ⟨#[45]⟩ ⟨#[45]⟩ 9
        rw [← HRW.out] at ho7
        have HO7 := Lib.hid (ho7.mono hb6.size)
        have HB7 : Hid (Below w.heap.size w (w5.alloc (.cells #[.string s, .string (decB ((ownE es s).length : Int)), .string ⟨#[45]⟩, .string ⟨#[45]⟩] 9))) := Lib.hid (hb6.alloc hb6.size _)
        clear ho7 hb6 hb5
        go_wp2_with fail
        go_ret
        exact ⟨_, _, rfl, HO7.out, HB7.out⟩
      · have hne : magE (ownE es s) ≠ [] := fun h => hm0 (by rw [← hml, h]; rfl)
        have HRW := Lib.hid (rowE_yes hne)
        have hmn := minL_in HMI.out hne
        have hmx := maxL_in HMI.out hne
        have HTN : Hid (∀ w', Calls Tryz.prog 31 #[.int .i64 (minL (magE (ownE es s)))] w' fun e w'' => e = .returned (.string (magB (minL (magE (ownE es s))))) ∧ Below w'.heap.size w' w'') := Lib.hid fun w' => l02Text_any _ w' (by omega) (by omega)
        have HTX : Hid (∀ w', Calls Tryz.prog 31 #[.int .i64 (maxL (magE (ownE es s)))] w' fun e w'' => e = .returned (.string (magB (maxL (magE (ownE es s))))) ∧ Below w'.heap.size w' w'') := Lib.hid fun w' => l02Text_any _ w' (by omega) (by omega)
        have d1 : ((m : Int) == 0) = false := by rw [beq_eq_false_iff_ne]; omega
        have hmr := ho.rd eI_len (by decide)
        obtain ⟨y0, hy0, hyt⟩ := take_snoc' (magE (ownE es s)) 0 (by omega)
        clear hyt
        obtain ⟨g, o2, rfl, _, hg0⟩ := hmr.at1 hy0 rfl
        rw [Nat.add_zero] at hg0
        have HN0 := Lib.hid (minK_one hy0)
        have HX0 := Lib.hid (maxK_one hy0)
        have hm1 : 0 < m := by omega
        have HMR := Lib.hid hmr
        clear hml hmn hmx htk ho hmr hy0 hne
        generalize magE (ownE es s) = M at *
        go_wp2_with fail
        clear hg0 d1
        go_loop [8, 9, 10] (fun p q i => ∃ j : Nat, 1 ≤ j ∧ j ≤ m ∧ i = .int .i64 j ∧ p = .int .i64 (minL (M.take j)) ∧ q = .int .i64 (maxL (M.take j))) (fun _ _ i => m - (intOf i).toNat)
        case atStart => exact ⟨1, Nat.le_refl _, hm1, rfl, by rw [HN0.out], by rw [HX0.out]⟩
        case round =>
          obtain ⟨j, hj1, hj, rfl, rfl, rfl⟩ := hrel
          by_cases hlj : j < m
          · obtain ⟨y, hy, hyt⟩ := take_snoc' M j (by rw [HML.out]; exact hlj)
            clear hyt
            obtain ⟨g', o', he, _, hgc⟩ := HMR.out.at1 hy rfl
            simp only [Option.some.injEq, Addr.mk.injEq, and_true] at he
            obtain ⟨rfl, rfl⟩ := he
            have HS1 := Lib.hid (minK_step hj1 hy)
            have HS2 := Lib.hid (maxK_step hj1 hy)
            clear hy
            go_wp2_with fail
            refine (l00Min_any _ _ _).mono ?_
            rintro e w5 ⟨rfl, rfl⟩
            go_wp2_with fail
            refine (l00Max_any _ _ _).mono ?_
            rintro e w5 ⟨rfl, rfl⟩
            go_wp2_with fail
            go_round
            case rel => exact ⟨j + 1, by omega, by omega, by go_num, by rw [HS1.out], by rw [HS2.out]⟩
            case measure => simp [intOf]; omega
          · have hjt : M.take j = M := List.take_of_length_le (by rw [HML.out]; omega)
            rw [hjt]
            clear hjt
            go_wp2_with fail
            refine (HD.out _).mono ?_
            rintro e w5 ⟨rfl, hb5⟩
            have HB5 := Lib.hid (hb.trans (hb5.mono hb.size))
            clear hb5
            go_wp2_with fail
            refine (HTN.out _).mono ?_
            rintro e w6 ⟨rfl, hb6⟩
            have HB6 := Lib.hid (HB5.out.trans (hb6.mono HB5.out.size))
            clear hb6
            go_wp2_with fail
            refine (HTX.out _).mono ?_
            rintro e w7 ⟨rfl, hb7⟩
            have hb8 := HB6.out.trans (hb7.mono HB6.out.size)
            have ho7 := Ow.four w7 s (decB ((ownE es s).length : Int)) (magB (minL M)) (magB (maxL M)) 9
            rw [← HRW.out] at ho7
            have HO7 := Lib.hid (ho7.mono hb8.size)
            have HB7 : Hid (Below w.heap.size w (w7.alloc (.cells #[.string s, .string (decB ((ownE es s).length : Int)), .string (magB (minL M)), .string (magB (maxL M))] 9))) := Lib.hid (hb8.alloc hb8.size _)
            clear ho7 hb7 hb8
            go_wp2_with fail
            go_ret
            exact ⟨_, _, rfl, HO7.out, HB7.out⟩
theorem countE_any (a : Option Addr) (n c : Nat) (w : World) : Calls Tryz.prog 39 #[.slice a n c] w fun e w' => e = .returned (.int .i64 n) ∧ w = w' := by
  go_enter Tryz.func39, Tryz.ntmps39
  go_wp2
  go_ret
  exact ⟨rfl, rfl⟩
theorem star1_any (x : Est) (s : ByteArray) (bl : Nat) (w : World) (hbl : bl < w.heap.size) (cl : w.cell? ⟨bl, 0, none⟩ = some (.string s)) :
    Calls Tryz.prog 36 #[.agg #[.int .i64 x.time, .string x.star, .string x.obs, .int .i64 x.mag, .bool x.fnt], .pointer (some ⟨bl, 0, none⟩)] w fun e w' => e = .returned (.bool (isStar s x)) ∧ Below w.heap.size w w' := by
  obtain ⟨c0, c1, c2, c3, c4, hb⟩ := estNew w x
  have HB := Lib.hid hb
  have cl2 := (hb.cell (p := ⟨bl, 0, none⟩) hbl).trans cl
  clear hb cl c0 c2 c3 c4
  go_enter Tryz.func36, Tryz.ntmps36
  go_wp2_with fail
  go_ret
  exact ⟨rfl, HB.out⟩
set_option maxHeartbeats 8000000 in
theorem starRow_any (es : List Est) (s : ByteArray) (a : Option Addr) (n c : Nat) (w : World) (hT : TabOk w) (hv : estsB es = true) (hl : es.length = n) (hr : Rd Est.enc 5 w a es) :
    Calls Tryz.prog 19 #[.slice a n c, .string s] w fun e w' => ∃ a' c', e = .returned (.slice a' 4 c') ∧ Ow eS 1 w' w.heap.size 9 (.slice a' 4 c') 4 (rowE es s) ∧ Below w.heap.size w w' := by
  have hn : n ≤ 100 := by rw [← hl]; exact estsB_len hv
  have HL := Lib.hid hl
  obtain ⟨cx, hbx, hsx⟩ := box1 w (.string s) 9
  have HR := Lib.hid (hr.below hbx)
  have HT := Lib.hid (hT.below hbx)
  have HMI := Lib.hid (magE_in (s := s) hv)
  have HSC := Lib.hid (magE_someC (s := s) hv)
  have HBX := Lib.hid hbx
  have hlx : w.heap.size < (w.alloc (.cells #[.string s] 9)).heap.size := by rw [hsx]; omega
  have HCX : Hid (∀ w', Below (w.alloc (.cells #[.string s] 9)).heap.size (w.alloc (.cells #[.string s] 9)) w' → w.heap.size < w'.heap.size ∧ w'.cell? ⟨w.heap.size, 0, none⟩ = some (.string s)) := Lib.hid fun w' hb' => ⟨Nat.lt_of_lt_of_le hlx hb'.size, (hb'.cell (p := ⟨w.heap.size, 0, none⟩) hlx).trans cx⟩
  clear hl hr hv hT cx hbx hsx
  have hle := HBX.out.size
  go_enter Tryz.func19, Tryz.ntmps19
  go_upto_region 1 with (fail)
  generalize w.alloc (.cells #[.string s] 9) = w0 at *
  clear hlx
  go_wp2_with fail
  refine (chosenEst_any es (isStar s) _ _ a n c _ (by omega) HL.out HR.out ?c1 ?c2).mono ?_
  case c1 => intro args wx; kernel_rfl
  case c2 =>
    intro i x w' hx hb'
    obtain ⟨h1, h2⟩ := HCX.out w' hb'
    exact star1_any x s _ w' h1 h2
  rintro e w1 ⟨a1, n1, c1, rfl, hn1, ho1, hb1⟩
  have hlen1 := ho1.len Est.len (by decide)
  have HRO := Lib.hid (ho1.rd Est.len (by decide))
  have HB1 := Lib.hid hb1
  rw [show es.filter (isStar s) = ownE es s from rfl] at HRO hlen1
  have HOL := Lib.hid hlen1
  clear ho1 hb1 hlen1
  have hbb := below_built w1 2
  have hbo := Ow.built eI 1 w1 2
  have HBB := Lib.hid hbb
  have HBO := Lib.hid hbo
  clear hbb hbo
  go_wp2_with fail
  go_loopw [6, 18] (fun o i wr => ∃ (k m : Nat) (a2 : Option Addr) (c2 : Nat), k ≤ n1 ∧ i = .int .i64 k ∧ m ≤ k ∧ o = .slice a2 m c2 ∧ Ow eI 1 wr w1.heap.size 2 (.slice a2 m c2) m (magE ((ownE es s).take k)) ∧ Below w1.heap.size w1 wr) (fun _ i _ => n1 - (intOf i).toNat)
  case atStart => exact ⟨0, 0, _, _, Nat.zero_le _, rfl, Nat.le_refl _, rfl, HBO.out, HBB.out⟩
  case round =>
    obtain ⟨k, m, a2, c2, hk, rfl, hmk, rfl, ho, hb⟩ := hrel
    by_cases hlt : k < n1
    · obtain ⟨x, hx, htk⟩ := take_snoc' (ownE es s) k (by rw [HOL.out]; exact hlt)
      obtain ⟨b, o, rfl, hbl, hc⟩ := HRO.out.below hb k x hx
      have c0 := hc 0 _ rfl
      rw [Nat.add_zero] at c0
      have c1 := hc 1 _ rfl
      have c2' := hc 2 _ rfl
      have c3 := hc 3 _ rfl
      have c4 := hc 4 _ rfl
      have HTK := Lib.hid htk
      obtain ⟨n0, nn1, n2, n3, n4, hbn⟩ := estNew wr x
      have HN3 := Lib.hid n3
      have HN4 := Lib.hid n4
      have HBN := Lib.hid hbn
      have HBQ := Lib.hid (hb.trans (hbn.mono hb.size))
      have HOQ := Lib.hid (ho.below hbn)
      clear hc hx htk n0 nn1 n2 n3 n4 hbn ho
      go_upto_region 6 with (fail)
      obtain ⟨wq, hwq⟩ : ∃ wq, wr.alloc (.cells #[.int .i64 x.time, .string x.star, .string x.obs, .int .i64 x.mag, .bool x.fnt] 42) = wq := ⟨_, rfl⟩
      rw [hwq] at HN3 HN4 HBN HBQ HOQ ⊢
      clear hwq c0 c1 c2' c3 c4
      have n3 := HN3.out
      have n4 := HN4.out
      cases hf : x.fnt with
      | true =>
        have HM : Hid (magE ((ownE es s).take k) = magE ((ownE es s).take (k + 1))) := Lib.hid (by rw [HTK.out, magE_no _ _ hf])
        rw [hf] at n4
        have HO2 := Lib.hid HOQ.out
        rw [HM.out] at HO2
        clear hf
        go_wp2_with fail
        go_roundw
        case rel => exact ⟨k + 1, m, a2, c2, by omega, by go_num, by omega, rfl, HO2.out, HBQ.out⟩
        case measure => simp [intOf]; omega
      | false =>
        have HM : Hid (magE ((ownE es s).take k) ++ [x.mag] = magE ((ownE es s).take (k + 1))) := Lib.hid (by rw [HTK.out, magE_yes _ _ hf])
        rw [hf] at n4
        have h63 : m + 1 ≤ maxLen := by unfold maxLen; omega
        have hby : (m + 1) * 8 ≤ 140737488355328 := by omega
        have hoq := HOQ.out
        have hbz := HBQ.out.size
        clear hf
        go_wp2_with (at_builtin; refine wpl_app eI_len (by decide) _ rfl (.tmp 25) (.tmp 28) 52 rfl 2 (.int .i64 0) 8 rfl Tryz.underlying52 infoI64s w1.heap.size _ m _ rfl wq _ 2 rfl hoq x.mag rfl rfl (eI_one _) h63 hby hbz _ HM ?_)
        intro a4 c5 w6 ho6 hb6 _
        have hb7 := HBQ.out.trans hb6
        clear hoq hb6 n3 n4
        go_wp2_with fail
        go_roundw
        case rel => exact ⟨k + 1, m + 1, a4, c5, by omega, by go_num, by omega, by simp, ho6, hb7⟩
        case measure => simp [intOf]; omega
    · obtain rfl : k = n1 := by omega
      have htk : (ownE es s).take k = ownE es s := List.take_of_length_le (by rw [HOL.out]; exact Nat.le_refl _)
      rw [htk] at ho
      have HML := Lib.hid (ho.len eI_len (by decide))
      have HMR := Lib.hid (ho.rd eI_len (by decide))
      have HB2 := Lib.hid (HB1.out.trans (hb.mono HB1.out.size))
      have HRG : Hid (∀ w', Rd eI 1 w' a2 (magE (ownE es s)) → Calls Tryz.prog 37 #[.slice a2 m c2] w' fun e w'' => e = .returned (.tuple #[.int .i64 (rngLo (magE (ownE es s))), .int .i64 (rngHi (magE (ownE es s))), .int .i64 (someC (magE (ownE es s)))]) ∧ Below w'.heap.size w' w'') := Lib.hid fun w' h' => RangeOfMags_any _ a2 m c2 w' (by omega) HML.out h'
      have HDK : Hid (((k : Nat) : Int) = ((ownE es s).length : Int)) := Lib.hid (by rw [HOL.out])
      clear ho hb htk
      by_cases hne : magE (ownE es s) = []
      · have HRW := Lib.hid (rowE_no hne)
        have hsc := HSC.out
        rw [if_pos hne] at hsc
        rw [show rngLo (magE (ownE es s)) = 0 from if_neg (by rw [hsc]; decide), show rngHi (magE (ownE es s)) = 0 from if_neg (by rw [hsc]; decide), hsc] at HRG
        clear hsc hne
        go_wp2_with fail
        refine (HRG.out _ HMR.out).mono ?_
        rintro e w3 ⟨rfl, hb3⟩
        have HB3 := Lib.hid (HB2.out.trans (hb3.mono HB2.out.size))
        have h3 : w0.heap.size ≤ w3.heap.size := HB3.out.size
        obtain ⟨hl3, cx3⟩ := HCX.out w3 HB3.out
        have n0 := cls_cell (B := w3.heap.size) hl3 cx3
        have HTB : Hid (∀ u : Cls w3.heap.size w3, TabOk u.w) := Lib.hid fun u => HT.out.below (HB3.out.trans (u.ok.mono h3))
        clear hb3 cx3
        have hI : I64 (k : Int) := by unfold I64; omega
        go_upto_region 11 with (fail)
        refine wp_region_cls_tail w3 (B := w3.heap.size) 4 (by kernel_rfl) (by kernel_rfl) (Below.refl _ _) ?_
        simp only [List.take_succ_cons, List.take_zero, List.drop_succ_cons, List.drop_zero]
        go_big_quiet_step (fail)
        go_big_quiet_step (fail)
        go_big_quiet_step ((go_at_call 39; exact cls_same (countE_any _ _ _ _)))
        go_big_quiet_step ((go_at_call 38; exact cls_call (Nat.le_refl _) (Decimal_any _ (by assumption) _ (HTB.out _))))
        refine wpQuiet_nil ?_
        intro _ hw'
        obtain ⟨uq, hw''⟩ := hw'
        subst hw''
        have hb4 := uq.ok
        generalize uq.w = w4 at hb4
        have hb5 := HBX.out.trans ((HB3.out.trans (hb4.mono h3)).mono hle)
        have ho7 := Ow.four w4 s (decB (k : Int)) ⟨#[45]⟩ ⟨#[45]⟩ 9
        rw [HDK.out, ← HRW.out] at ho7
        have HO7 := Lib.hid (ho7.mono hb5.size)
        have HB7 : Hid (Below w.heap.size w (w4.alloc (.cells #[.string s, .string (decB (k : Int)), .string ⟨#[45]⟩, .string ⟨#[45]⟩] 9))) := Lib.hid (hb5.alloc hb5.size _)
        rw [← HDK.out] at HO7
        clear n0 HTB hb4 hb5 ho7
        go_wp2_with fail
        go_ret
        exact ⟨_, _, rfl, HO7.out, HB7.out⟩
      · have HRW := Lib.hid (rowE_yes hne)
        have hsc := HSC.out
        rw [if_neg hne] at hsc
        rw [show rngLo (magE (ownE es s)) = minL (magE (ownE es s)) from if_pos hsc, show rngHi (magE (ownE es s)) = maxL (magE (ownE es s)) from if_pos hsc, hsc] at HRG
        have hmn := minL_in HMI.out hne
        have hmx := maxL_in HMI.out hne
        have HMT : Hid (∀ w', TabOk w' → Calls Tryz.prog 40 #[.int .i64 (minL (magE (ownE es s)))] w' fun e w'' => e = .returned (.string (magB (minL (magE (ownE es s))))) ∧ Below w'.heap.size w' w'') := Lib.hid fun w' h => MagText_any _ w' h (by omega) (by omega)
        have HMX : Hid (∀ w', TabOk w' → Calls Tryz.prog 40 #[.int .i64 (maxL (magE (ownE es s)))] w' fun e w'' => e = .returned (.string (magB (maxL (magE (ownE es s))))) ∧ Below w'.heap.size w' w'') := Lib.hid fun w' h => MagText_any _ w' h (by omega) (by omega)
        clear hmn hmx
        generalize minL (magE (ownE es s)) = LO at *
        generalize maxL (magE (ownE es s)) = HI at *
        clear hsc hne
        go_wp2_with fail
        refine (HRG.out _ HMR.out).mono ?_
        rintro e w3 ⟨rfl, hb3⟩
        have HB3 := Lib.hid (HB2.out.trans (hb3.mono HB2.out.size))
        have h3 : w0.heap.size ≤ w3.heap.size := HB3.out.size
        obtain ⟨hl3, cx3⟩ := HCX.out w3 HB3.out
        have n0 := cls_cell (B := w3.heap.size) hl3 cx3
        have HTB : Hid (∀ u : Cls w3.heap.size w3, TabOk u.w) := Lib.hid fun u => HT.out.below (HB3.out.trans (u.ok.mono h3))
        clear hb3 cx3
        have hI : I64 (k : Int) := by unfold I64; omega
        go_upto_region 12 with (fail)
        refine wp_region_cls_tail w3 (B := w3.heap.size) 8 (by kernel_rfl) (by kernel_rfl) (Below.refl _ _) ?_
        simp only [List.take_succ_cons, List.take_zero, List.drop_succ_cons, List.drop_zero]
        go_big_quiet_step (fail)
        go_big_quiet_step (fail)
        go_big_quiet_step ((go_at_call 39; exact cls_same (countE_any _ _ _ _)))
        go_big_quiet_step ((go_at_call 38; exact cls_call (Nat.le_refl _) (Decimal_any _ (by assumption) _ (HTB.out _))))
        go_big_quiet_step (fail)
        go_big_quiet_step ((go_at_call 40; exact cls_call (Nat.le_refl _) (HMT.out _ (HTB.out _))))
        go_big_quiet_step (fail)
        go_big_quiet_step ((go_at_call 40; exact cls_call (Nat.le_refl _) (HMX.out _ (HTB.out _))))
        refine wpQuiet_nil ?_
        intro _ hw'
        obtain ⟨uq, hw''⟩ := hw'
        subst hw''
        have hb4 := uq.ok
        generalize uq.w = w4 at hb4
        have hb5 := HBX.out.trans ((HB3.out.trans (hb4.mono h3)).mono hle)
        have ho7 := Ow.four w4 s (decB (k : Int)) (magB LO) (magB HI) 9
        rw [HDK.out, ← HRW.out] at ho7
        have HO7 := Lib.hid (ho7.mono hb5.size)
        have HB7 : Hid (Below w.heap.size w (w4.alloc (.cells #[.string s, .string (decB (k : Int)), .string (magB LO), .string (magB HI)] 9))) := Lib.hid (hb5.alloc hb5.size _)
        rw [← HDK.out] at HO7
        clear n0 HTB hb4 hb5 ho7
        go_wp2_with fail
        go_ret
        exact ⟨_, _, rfl, HO7.out, HB7.out⟩
def srC (es : List Est) (s : ByteArray) : Int := if estsB es = true then (if nameB s = true then 0 else 2) else 1
def srL (es : List Est) (s : ByteArray) : List ByteArray := if srC es s = 0 then rowE es s else []
end Go.Proofs.YtcggnjpbahobcaaGreatDoor
