/-
  For all bytes from which three points, a light curve and a place in it are drawn the law FnVertices returns true and leaves its argument as it was. No condition.
-/
import Derived.Test.YtloggipjmaiegaaVx9
import Derived.ProofKit
import Derived.Deep.CutRange
import Derived.Deep.Light
import Derived.OpenShut
import Derived.ShutString
import Derived.ChangeOld
namespace Go.Proofs.Ytloggipjmaiegaa
open Go.RowKit

namespace fnVertices
set_option maxRecDepth 100000
set_option linter.unusedVariables false
theorem guardVx (op : BinOp) (o o' : Operand) (xs ys : Array Value) (wx : World) : (eqGuard op 51 o o' (.agg xs) (.agg ys)).run Try.prog wx = .ok () wx := run_eqGuard_agg wx op _ o o' xs ys (by kernel_rfl)
theorem neqVx (x : Frac) (wx : World) : (binOp .neq 51 (.agg #[.int .i64 x.num, .int .i64 x.den]) (.agg #[.int .i64 x.num, .int .i64 x.den])).run Try.prog wx = .ok (.bool false) wx := by
  rw [run_neq_struct, run_equalIn_agg _ _ _ _ _ (by kernel_rfl) (by kernel_rfl)]
  rw [Program.fieldsOf, Try.underlying51]
  have e1 := fun w a b => run_equalIn_int (P := Try.prog) w 9998 2 .i64 .i64 a b Try.underlying2
  have p0 : ∀ (b c : Int) (w : World), (part 2 #[.int .i64 b, .int .i64 c] 0).run Try.prog w = .ok (.int .i64 b) w := by intros; kernel_rfl
  have p1 : ∀ (b c : Int) (w : World), (part 2 #[.int .i64 b, .int .i64 c] 1).run Try.prog w = .ok (.int .i64 c) w := by intros; kernel_rfl
  simp only [Op.eqFields, p0, p1, e1, Sem.run_bind, Sem.run_ite, Sem.run_pure, Result.andThen_ok, ne_eq, String.reduceEq, not_false_eq_true, if_true, beq_self_eq_true]
  rfl
theorem vx_bounds {a b c : Pt} {F : Frac} (h : vxCode a b c = 0) (hF : vtF a b c = F) : (0 ≤ a.time ∧ a.time ≤ 10000000) ∧ (0 ≤ b.time ∧ b.time ≤ 10000000) ∧ (0 ≤ c.time ∧ c.time ≤ 10000000) ∧ (-1000000000000000000 ≤ F.num ∧ F.num ≤ 1000000000000000000) ∧ (0 ≤ F.den ∧ F.den ≤ 10000000000) := by
  obtain ⟨p, q, s⟩ := vxCode_ok h
  have ht := three_of p
  have hok := VxOk.of p q
  refine ⟨by omega, by omega, by omega, ?_⟩
  unfold vtF at hF
  rw [if_pos h] at hF
  unfold vxTime at hF
  have hb := hok.p.bend
  have hti := hok.p.tilt
  have ha := hok.a0
  generalize bendI (b.time - a.time) (c.time - a.time) (b.mag - a.mag) (c.mag - a.mag) = BI at *
  generalize tiltI (b.time - a.time) (c.time - a.time) (b.mag - a.mag) (c.mag - a.mag) = TI at *
  have hmb := mulBd (x := BI) (y := a.time * 2) (A := 4400000000) (B := 20000000) (by omega) (by omega) (by omega) (by omega) (by omega)
  rw [Int.mul_comm BI] at hmb
  generalize a.time * 2 * BI = M1 at *
  unfold frS at hF
  by_cases hn : 2 * BI < 0
  · rw [if_pos hn] at hF
    obtain ⟨g, hg, e1, e2, h1, h2, h3, h4⟩ := frF_spec (-(M1 - TI)) (-(2 * BI)) (by omega)
    rw [hF] at h1 h2 h3 h4
    omega
  · rw [if_neg hn] at hF
    obtain ⟨g, hg, e1, e2, h1, h2, h3, h4⟩ := frF_spec (M1 - TI) (2 * BI) (by omega)
    rw [hF] at h1 h2 h3 h4
    omega
theorem vx_later {a b c : Pt} {F : Frac} (h : vxCode a b c = 0) (hF : vtF a b c = F) (hc : c.time + 100 ≤ 10000000) : vtF a.later b.later c.later = ⟨F.num + 100 * F.den, F.den⟩ ∧ vxCode a.later b.later c.later = 0 := by
  obtain ⟨p, q, s⟩ := vxCode_ok h
  have ht := three_of p
  have hv : Pt.allOk [a.later, b.later, c.later] = true := by
    exact three_mk (by unfold Pt.later; dsimp only; omega) (by unfold Pt.later; dsimp only; omega) (by unfold Pt.later; dsimp only; omega) (by unfold Pt.later; dsimp only; omega) ht.2.2.2.2.1 ht.2.2.2.2.2.1 ht.2.2.2.2.2.2
  have e : vxCode a.later b.later c.later = 0 := by
    have hf : ¬ c.later.time - a.later.time > 100000 := by unfold Pt.later; dsimp only; omega
    have hb : bendI (b.later.time - a.later.time) (c.later.time - a.later.time) (b.later.mag - a.later.mag) (c.later.mag - a.later.mag) ≠ 0 := by
      unfold Pt.later; dsimp only
      rw [show b.time + 100 - (a.time + 100) = b.time - a.time by omega, show c.time + 100 - (a.time + 100) = c.time - a.time by omega]
      exact s
    unfold vxCode
    rw [if_pos hv, if_neg hf, if_neg hb]
  refine ⟨?_, e⟩
  unfold vtF at hF ⊢
  rw [if_pos h] at hF
  rw [if_pos e, vx_shift s, hF]

set_option maxHeartbeats 20000000 in
theorem law_walk (a0 : Option Addr) (n0 c0 : Nat) (x0 : List Int) (w : World) (l0 : x0.length = n0) (m0 : n0 ≤ maxLen) (o0 : ∀ v ∈ x0, Byt v) (w0 : Rd eB 1 w a0 x0) :
    Calls Try.prog 5 #[.slice a0 n0 c0] w fun e w' => e = .returned (.bool true) ∧ Below w.heap.size w w' := by
  by_cases hlen : n0 ≤ 4096
  case neg =>
    have C := Lib.hid (fun wq => f6bigVx a0 n0 c0 wq true (by simp; omega))
    clear l0 o0 m0 w0
    go_enter Try.func5, Try.ntmps5
    go_wp2_with fail
    refine (C.out _).mono ?_
    rintro e wv0 ⟨rfl, rfl⟩
    go_wp2_with fail
    go_ret
    exact ⟨rfl, Below.refl _ _⟩
  have hn0 := hlen
  clear hlen
  have HL0 := Lib.hid l0
  have HO0 := Lib.hid o0
  have HR0 := Lib.hid w0
  clear l0 o0 m0 w0
  go_enter Try.func5, Try.ntmps5
  go_wp2_with fail
  refine (f6bigVx a0 n0 c0 _ false (by simp; omega)).mono ?_
  rintro e wz ⟨rfl, rfl⟩
  go_wp2_with fail
  refine (DrawVertexTime_any a0 n0 c0 x0 _ HL0.out HO0.out (HR0.out.below (Below.refl w.heap.size w))).mono ?_
  rintro e wv101 ⟨pa, pb, pc, rfl, hb102⟩
  have HB103 : Hid (Below w.heap.size w wv101) := Lib.hid hb102
  clear hb102
  have HX104 := CAt.new wv101 #[.int .i64 pa.time, .int .i64 pa.mag] 42
  have hb105 := (Below.refl wv101.heap.size wv101).alloc (Nat.le_refl _) (.cells #[.int .i64 pa.time, .int .i64 pa.mag] 42)
  obtain ⟨wv107, HW108⟩ : ∃ wx, wv101.alloc (.cells #[.int .i64 pa.time, .int .i64 pa.mag] 42) = wx := ⟨_, rfl⟩
  obtain ⟨g106, HG109⟩ : ∃ gx, wv101.heap.size = gx := ⟨_, rfl⟩
  rw [HW108] at HX104 hb105
  rw [HG109] at HX104
  have hge110 : w.heap.size ≤ g106 := by rw [← HG109]; exact HB103.out.size
  have HX104_ := Lib.hid HX104
  clear HX104
  have HX104 := HX104_
  clear HX104_
  have HW108_ := Lib.hid HW108
  clear HW108
  have HW108 := HW108_
  clear HW108_
  have HG109_ := Lib.hid HG109
  clear HG109
  have HG109 := HG109_
  clear HG109_
  have HB111 : Hid (Below w.heap.size w wv107) := Lib.hid (HB103.out.trans (hb105.mono HB103.out.size))
  clear hb105
  have HX112 := CAt.new wv107 #[.int .i64 pb.time, .int .i64 pb.mag] 42
  have hb113 := (Below.refl wv107.heap.size wv107).alloc (Nat.le_refl _) (.cells #[.int .i64 pb.time, .int .i64 pb.mag] 42)
  obtain ⟨wv115, HW116⟩ : ∃ wx, wv107.alloc (.cells #[.int .i64 pb.time, .int .i64 pb.mag] 42) = wx := ⟨_, rfl⟩
  obtain ⟨g114, HG117⟩ : ∃ gx, wv107.heap.size = gx := ⟨_, rfl⟩
  rw [HW116] at HX112 hb113
  rw [HG117] at HX112
  have hge118 : w.heap.size ≤ g114 := by rw [← HG117]; exact HB111.out.size
  have hlt119 : g106 < g114 := by rw [← HG117]; exact HX104.out.lt
  have HX112_ := Lib.hid HX112
  clear HX112
  have HX112 := HX112_
  clear HX112_
  have HW116_ := Lib.hid HW116
  clear HW116
  have HW116 := HW116_
  clear HW116_
  have HG117_ := Lib.hid HG117
  clear HG117
  have HG117 := HG117_
  clear HG117_
  have HA120 : Hid (g106 + 1 = g114) := Lib.hid (by have h1 : wv107.heap.size = wv101.heap.size + 1 := by { rw [← HW108.out]; exact (bx1 _ _ _).2.2 }; have h2 := HG109.out; have h3 := HG117.out; omega)
  have HB121 : Hid (Below w.heap.size w wv115) := Lib.hid (HB111.out.trans (hb113.mono HB111.out.size))
  have HX122 := Lib.hid (HX104.out.below hb113)
  clear hb113
  have HX123 := CAt.new wv115 #[.int .i64 pc.time, .int .i64 pc.mag] 42
  have hb124 := (Below.refl wv115.heap.size wv115).alloc (Nat.le_refl _) (.cells #[.int .i64 pc.time, .int .i64 pc.mag] 42)
  obtain ⟨wv126, HW127⟩ : ∃ wx, wv115.alloc (.cells #[.int .i64 pc.time, .int .i64 pc.mag] 42) = wx := ⟨_, rfl⟩
  obtain ⟨g125, HG128⟩ : ∃ gx, wv115.heap.size = gx := ⟨_, rfl⟩
  rw [HW127] at HX123 hb124
  rw [HG128] at HX123
  have hge129 : w.heap.size ≤ g125 := by rw [← HG128]; exact HB121.out.size
  have hlt130 : g106 < g125 := by rw [← HG128]; exact HX122.out.lt
  have hlt131 : g114 < g125 := by rw [← HG128]; exact HX112.out.lt
  have HX123_ := Lib.hid HX123
  clear HX123
  have HX123 := HX123_
  clear HX123_
  have HW127_ := Lib.hid HW127
  clear HW127
  have HW127 := HW127_
  clear HW127_
  have HG128_ := Lib.hid HG128
  clear HG128
  have HG128 := HG128_
  clear HG128_
  have HA132 : Hid (g106 + 2 = g125) := Lib.hid (by have h1 : wv115.heap.size = wv107.heap.size + 1 := by { rw [← HW116.out]; exact (bx1 _ _ _).2.2 }; have h2 := HG117.out; have h3 := HG128.out; have h4 := HA120.out; omega)
  have HA133 : Hid (g114 + 1 = g125) := Lib.hid (by have h1 := HA120.out; have h2 := HA132.out; omega)
  have HB134 : Hid (Below w.heap.size w wv126) := Lib.hid (HB121.out.trans (hb124.mono HB121.out.size))
  have HX135 := Lib.hid (HX122.out.below hb124)
  have HX136 := Lib.hid (HX112.out.below hb124)
  clear hb124
  go_upto_region 4 with (fail)
  rw [HW108.out]
  rw [HG109.out]
  rw [HW116.out]
  first | rw [HG117.out] | rw [HA120.out]
  rw [HW127.out]
  first | rw [HG128.out] | rw [HA132.out] | rw [HA133.out]
  have c137 : wv126.cell? ⟨g106, 0, none⟩ = some (.int .i64 pa.time) := HX135.out.cell 0
  have c138 : wv126.cell? ⟨g106, 1, none⟩ = some (.int .i64 pa.mag) := HX135.out.cell 1
  have c139 : wv126.cell? ⟨g114, 0, none⟩ = some (.int .i64 pb.time) := HX136.out.cell 0
  have c140 : wv126.cell? ⟨g114, 1, none⟩ = some (.int .i64 pb.mag) := HX136.out.cell 1
  have c141 : wv126.cell? ⟨g125, 0, none⟩ = some (.int .i64 pc.time) := HX123.out.cell 0
  have c142 : wv126.cell? ⟨g125, 1, none⟩ = some (.int .i64 pc.mag) := HX123.out.cell 1
  go_wp2_with fail
  refine (imVertexTime_any pa pb pc _).mono ?_
  rintro e wv143 ⟨rfl, hb144⟩
  clear c137 c138 c139 c140 c141 c142
  have HB145 : Hid (Below w.heap.size w wv143) := Lib.hid (HB134.out.trans (hb144.mono HB134.out.size))
  have HX146 := Lib.hid (HX135.out.below hb144)
  have HX147 := Lib.hid (HX136.out.below hb144)
  have HX148 := Lib.hid (HX123.out.below hb144)
  clear hb144
  obtain ⟨F, hF⟩ : ∃ z, vtF pa pb pc = z := ⟨_, rfl⟩
  rw [hF]
  have HF := Lib.hid hF
  clear hF
  obtain ⟨C, hC⟩ : ∃ z, vxCode pa pb pc = z := ⟨_, rfl⟩
  rw [hC]
  have HC := Lib.hid hC
  clear hC
  have ddC : (C != C) = false := by simp
  have HX149 := CAt.new wv143 #[.int .i64 F.num, .int .i64 F.den] 51
  have hb150 := (Below.refl wv143.heap.size wv143).alloc (Nat.le_refl _) (.cells #[.int .i64 F.num, .int .i64 F.den] 51)
  obtain ⟨wv152, HW153⟩ : ∃ wx, wv143.alloc (.cells #[.int .i64 F.num, .int .i64 F.den] 51) = wx := ⟨_, rfl⟩
  obtain ⟨g151, HG154⟩ : ∃ gx, wv143.heap.size = gx := ⟨_, rfl⟩
  rw [HW153] at HX149 hb150
  rw [HG154] at HX149
  have hge155 : w.heap.size ≤ g151 := by rw [← HG154]; exact HB145.out.size
  have hlt156 : g106 < g151 := by rw [← HG154]; exact HX146.out.lt
  have hlt157 : g114 < g151 := by rw [← HG154]; exact HX147.out.lt
  have hlt158 : g125 < g151 := by rw [← HG154]; exact HX148.out.lt
  have HX149_ := Lib.hid HX149
  clear HX149
  have HX149 := HX149_
  clear HX149_
  have HW153_ := Lib.hid HW153
  clear HW153
  have HW153 := HW153_
  clear HW153_
  have HG154_ := Lib.hid HG154
  clear HG154
  have HG154 := HG154_
  clear HG154_
  have HB159 : Hid (Below w.heap.size w wv152) := Lib.hid (HB145.out.trans (hb150.mono HB145.out.size))
  have HX160 := Lib.hid (HX146.out.below hb150)
  have HX161 := Lib.hid (HX147.out.below hb150)
  have HX162 := Lib.hid (HX148.out.below hb150)
  clear hb150
  go_upto_region 5 with (fail)
  rw [HW153.out]
  rw [HG154.out]
  have c163 : wv152.cell? ⟨g106, 0, none⟩ = some (.int .i64 pa.time) := HX160.out.cell 0
  have c164 : wv152.cell? ⟨g106, 1, none⟩ = some (.int .i64 pa.mag) := HX160.out.cell 1
  have c165 : wv152.cell? ⟨g114, 0, none⟩ = some (.int .i64 pb.time) := HX161.out.cell 0
  have c166 : wv152.cell? ⟨g114, 1, none⟩ = some (.int .i64 pb.mag) := HX161.out.cell 1
  have c167 : wv152.cell? ⟨g125, 0, none⟩ = some (.int .i64 pc.time) := HX162.out.cell 0
  have c168 : wv152.cell? ⟨g125, 1, none⟩ = some (.int .i64 pc.mag) := HX162.out.cell 1
  go_wp2_with fail
  refine (spVertexTime_any pa pb pc _).mono ?_
  rintro e wv169 ⟨rfl, hb170⟩
  clear c163 c164 c165 c166 c167 c168
  have HB171 : Hid (Below w.heap.size w wv169) := Lib.hid (HB159.out.trans (hb170.mono HB159.out.size))
  have HX172 := Lib.hid (HX160.out.below hb170)
  have HX173 := Lib.hid (HX161.out.below hb170)
  have HX174 := Lib.hid (HX162.out.below hb170)
  have HX175 := Lib.hid (HX149.out.below hb170)
  clear hb170
  rw [HF.out, HC.out]
  have HX176 := CAt.new wv169 #[.int .i64 F.num, .int .i64 F.den] 51
  have hb177 := (Below.refl wv169.heap.size wv169).alloc (Nat.le_refl _) (.cells #[.int .i64 F.num, .int .i64 F.den] 51)
  obtain ⟨wv179, HW180⟩ : ∃ wx, wv169.alloc (.cells #[.int .i64 F.num, .int .i64 F.den] 51) = wx := ⟨_, rfl⟩
  obtain ⟨g178, HG181⟩ : ∃ gx, wv169.heap.size = gx := ⟨_, rfl⟩
  rw [HW180] at HX176 hb177
  rw [HG181] at HX176
  have hge182 : w.heap.size ≤ g178 := by rw [← HG181]; exact HB171.out.size
  have hlt183 : g106 < g178 := by rw [← HG181]; exact HX172.out.lt
  have hlt184 : g114 < g178 := by rw [← HG181]; exact HX173.out.lt
  have hlt185 : g125 < g178 := by rw [← HG181]; exact HX174.out.lt
  have hlt186 : g151 < g178 := by rw [← HG181]; exact HX175.out.lt
  have HX176_ := Lib.hid HX176
  clear HX176
  have HX176 := HX176_
  clear HX176_
  have HW180_ := Lib.hid HW180
  clear HW180
  have HW180 := HW180_
  clear HW180_
  have HG181_ := Lib.hid HG181
  clear HG181
  have HG181 := HG181_
  clear HG181_
  have HB187 : Hid (Below w.heap.size w wv179) := Lib.hid (HB171.out.trans (hb177.mono HB171.out.size))
  have HX188 := Lib.hid (HX172.out.below hb177)
  have HX189 := Lib.hid (HX173.out.below hb177)
  have HX190 := Lib.hid (HX174.out.below hb177)
  have HX191 := Lib.hid (HX175.out.below hb177)
  clear hb177
  go_upto_region 6 with (fail)
  rw [HW180.out]
  rw [HG181.out]
  have c192 : wv179.cell? ⟨g106, 0, none⟩ = some (.int .i64 pa.time) := HX188.out.cell 0
  have c193 : wv179.cell? ⟨g106, 1, none⟩ = some (.int .i64 pa.mag) := HX188.out.cell 1
  have c194 : wv179.cell? ⟨g114, 0, none⟩ = some (.int .i64 pb.time) := HX189.out.cell 0
  have c195 : wv179.cell? ⟨g114, 1, none⟩ = some (.int .i64 pb.mag) := HX189.out.cell 1
  have c196 : wv179.cell? ⟨g125, 0, none⟩ = some (.int .i64 pc.time) := HX190.out.cell 0
  have c197 : wv179.cell? ⟨g125, 1, none⟩ = some (.int .i64 pc.mag) := HX190.out.cell 1
  go_wp2_with fail
  refine (imVertexMag_any pa pb pc _).mono ?_
  rintro e wv198 ⟨r1, c1, rfl, hv1, hb199⟩
  clear c192 c193 c194 c195 c196 c197
  have HB200 : Hid (Below w.heap.size w wv198) := Lib.hid (HB187.out.trans (hb199.mono HB187.out.size))
  have HX201 := Lib.hid (HX188.out.below hb199)
  have HX202 := Lib.hid (HX189.out.below hb199)
  have HX203 := Lib.hid (HX190.out.below hb199)
  have HX204 := Lib.hid (HX191.out.below hb199)
  have HX205 := Lib.hid (HX176.out.below hb199)
  clear hb199
  have HV1 := Lib.hid hv1
  clear hv1
  have c206 : wv198.cell? ⟨g106, 0, none⟩ = some (.int .i64 pa.time) := HX201.out.cell 0
  have c207 : wv198.cell? ⟨g106, 1, none⟩ = some (.int .i64 pa.mag) := HX201.out.cell 1
  have c208 : wv198.cell? ⟨g114, 0, none⟩ = some (.int .i64 pb.time) := HX202.out.cell 0
  have c209 : wv198.cell? ⟨g114, 1, none⟩ = some (.int .i64 pb.mag) := HX202.out.cell 1
  have c210 : wv198.cell? ⟨g125, 0, none⟩ = some (.int .i64 pc.time) := HX203.out.cell 0
  have c211 : wv198.cell? ⟨g125, 1, none⟩ = some (.int .i64 pc.mag) := HX203.out.cell 1
  go_wp2_with fail
  refine (spVertexMag_any pa pb pc _).mono ?_
  rintro e wv212 ⟨r2, c2, rfl, hv2, hb213⟩
  clear c206 c207 c208 c209 c210 c211
  have HB214 : Hid (Below w.heap.size w wv212) := Lib.hid (HB200.out.trans (hb213.mono HB200.out.size))
  have HX215 := Lib.hid (HX201.out.below hb213)
  have HX216 := Lib.hid (HX202.out.below hb213)
  have HX217 := Lib.hid (HX203.out.below hb213)
  have HX218 := Lib.hid (HX204.out.below hb213)
  have HX219 := Lib.hid (HX205.out.below hb213)
  clear hb213
  obtain ⟨hr12, hc12⟩ := vm_same HV1.out hv2
  subst hr12 hc12
  have HV2 := Lib.hid hv2
  have ddr1 : (r1 != r1) = false := by simp
  have ddc1 : (c1 != c1) = false := by simp
  clear hv2
  go_wp2_with fail
  refine (DrawRefine_any a0 n0 c0 x0 _ HL0.out HO0.out (HR0.out.below HB214.out)).mono ?_
  rintro e wv220 ⟨ac, kc, cc, ps, ix, rfl, hkc, hlc, hrc, hb221⟩
  have HB222 : Hid (Below w.heap.size w wv220) := Lib.hid (HB214.out.trans (hb221.mono HB214.out.size))
  have HX223 := Lib.hid (HX215.out.below hb221)
  have HX224 := Lib.hid (HX216.out.below hb221)
  have HX225 := Lib.hid (HX217.out.below hb221)
  have HX226 := Lib.hid (HX218.out.below hb221)
  have HX227 := Lib.hid (HX219.out.below hb221)
  clear hb221
  have HLP := Lib.hid hlc
  have HRP := Lib.hid hrc
  clear hlc hrc
  go_wp2_with fail
  refine (imRefine_any ps ac kc cc ix _ (by omega) HLP.out (HRP.out)).mono ?_
  rintro e wv228 ⟨rfl, hb229⟩
  have HB230 : Hid (Below w.heap.size w wv228) := Lib.hid (HB222.out.trans (hb229.mono HB222.out.size))
  have HX231 := Lib.hid (HX223.out.below hb229)
  have HX232 := Lib.hid (HX224.out.below hb229)
  have HX233 := Lib.hid (HX225.out.below hb229)
  have HX234 := Lib.hid (HX226.out.below hb229)
  have HX235 := Lib.hid (HX227.out.below hb229)
  have HR236 := Lib.hid (HRP.out.below hb229)
  clear hb229
  obtain ⟨F2, hF2⟩ : ∃ z, reF ps ix = z := ⟨_, rfl⟩
  rw [hF2]
  have HF2 := Lib.hid hF2
  clear hF2
  obtain ⟨C2, hC2⟩ : ∃ z, reC ps ix = z := ⟨_, rfl⟩
  rw [hC2]
  have HC2 := Lib.hid hC2
  clear hC2
  have ddC2 : (C2 != C2) = false := by simp
  have HX237 := CAt.new wv228 #[.int .i64 F2.num, .int .i64 F2.den] 51
  have hb238 := (Below.refl wv228.heap.size wv228).alloc (Nat.le_refl _) (.cells #[.int .i64 F2.num, .int .i64 F2.den] 51)
  obtain ⟨wv240, HW241⟩ : ∃ wx, wv228.alloc (.cells #[.int .i64 F2.num, .int .i64 F2.den] 51) = wx := ⟨_, rfl⟩
  obtain ⟨g239, HG242⟩ : ∃ gx, wv228.heap.size = gx := ⟨_, rfl⟩
  rw [HW241] at HX237 hb238
  rw [HG242] at HX237
  have hge243 : w.heap.size ≤ g239 := by rw [← HG242]; exact HB230.out.size
  have hlt244 : g106 < g239 := by rw [← HG242]; exact HX231.out.lt
  have hlt245 : g114 < g239 := by rw [← HG242]; exact HX232.out.lt
  have hlt246 : g125 < g239 := by rw [← HG242]; exact HX233.out.lt
  have hlt247 : g151 < g239 := by rw [← HG242]; exact HX234.out.lt
  have hlt248 : g178 < g239 := by rw [← HG242]; exact HX235.out.lt
  have HX237_ := Lib.hid HX237
  clear HX237
  have HX237 := HX237_
  clear HX237_
  have HW241_ := Lib.hid HW241
  clear HW241
  have HW241 := HW241_
  clear HW241_
  have HG242_ := Lib.hid HG242
  clear HG242
  have HG242 := HG242_
  clear HG242_
  have HB249 : Hid (Below w.heap.size w wv240) := Lib.hid (HB230.out.trans (hb238.mono HB230.out.size))
  have HX250 := Lib.hid (HX231.out.below hb238)
  have HX251 := Lib.hid (HX232.out.below hb238)
  have HX252 := Lib.hid (HX233.out.below hb238)
  have HX253 := Lib.hid (HX234.out.below hb238)
  have HX254 := Lib.hid (HX235.out.below hb238)
  have HR255 := Lib.hid (HR236.out.below hb238)
  clear hb238
  go_upto_region 10 with (fail)
  rw [HW241.out]
  rw [HG242.out]
  go_wp2_with fail
  refine (spRefine_any ps ac kc cc ix _ (by omega) HLP.out (HR255.out)).mono ?_
  rintro e wv256 ⟨rfl, hb257⟩
  have HB258 : Hid (Below w.heap.size w wv256) := Lib.hid (HB249.out.trans (hb257.mono HB249.out.size))
  have HX259 := Lib.hid (HX250.out.below hb257)
  have HX260 := Lib.hid (HX251.out.below hb257)
  have HX261 := Lib.hid (HX252.out.below hb257)
  have HX262 := Lib.hid (HX253.out.below hb257)
  have HX263 := Lib.hid (HX254.out.below hb257)
  have HX264 := Lib.hid (HX237.out.below hb257)
  have HR265 := Lib.hid (HR255.out.below hb257)
  clear hb257
  rw [HF2.out, HC2.out]
  by_cases hcz : C = 0
  · have dcz : (C != 0) = false := by rw [hcz]; rfl
    have hcc := HC.out.trans hcz
    have hvo := vx_bounds hcc HF.out
    obtain ⟨hb1, hb2, hb3, hb4, hb5⟩ := hvo
    have HCC := Lib.hid hcc
    clear hcc hcz
    by_cases hfar : 10000000 < pc.time + 100
    · have dfar : decide (10000000 < pc.time + 100) = true := decide_eq_true hfar
      have HX332 := CAt.new wv256 #[.int .i64 F2.num, .int .i64 F2.den] 51
      have hb333 := (Below.refl wv256.heap.size wv256).alloc (Nat.le_refl _) (.cells #[.int .i64 F2.num, .int .i64 F2.den] 51)
      obtain ⟨wv335, HW336⟩ : ∃ wx, wv256.alloc (.cells #[.int .i64 F2.num, .int .i64 F2.den] 51) = wx := ⟨_, rfl⟩
      obtain ⟨g334, HG337⟩ : ∃ gx, wv256.heap.size = gx := ⟨_, rfl⟩
      rw [HW336] at HX332 hb333
      rw [HG337] at HX332
      have hge338 : w.heap.size ≤ g334 := by rw [← HG337]; exact HB258.out.size
      have hlt339 : g106 < g334 := by rw [← HG337]; exact HX259.out.lt
      have hlt340 : g114 < g334 := by rw [← HG337]; exact HX260.out.lt
      have hlt341 : g125 < g334 := by rw [← HG337]; exact HX261.out.lt
      have hlt342 : g151 < g334 := by rw [← HG337]; exact HX262.out.lt
      have hlt343 : g178 < g334 := by rw [← HG337]; exact HX263.out.lt
      have hlt344 : g239 < g334 := by rw [← HG337]; exact HX264.out.lt
      have HX332_ := Lib.hid HX332
      clear HX332
      have HX332 := HX332_
      clear HX332_
      have HW336_ := Lib.hid HW336
      clear HW336
      have HW336 := HW336_
      clear HW336_
      have HG337_ := Lib.hid HG337
      clear HG337
      have HG337 := HG337_
      clear HG337_
      have HB345 : Hid (Below w.heap.size w wv335) := Lib.hid (HB258.out.trans (hb333.mono HB258.out.size))
      have HX346 := Lib.hid (HX259.out.below hb333)
      have HX347 := Lib.hid (HX260.out.below hb333)
      have HX348 := Lib.hid (HX261.out.below hb333)
      have HX349 := Lib.hid (HX262.out.below hb333)
      have HX350 := Lib.hid (HX263.out.below hb333)
      have HX351 := Lib.hid (HX264.out.below hb333)
      clear hb333
      go_upto_region 11 with (fail)
      rw [HW336.out]
      rw [HG337.out]
      have c352 : wv335.cell? ⟨g151, 0, none⟩ = some (.int .i64 F.num) := HX349.out.cell 0
      have c353 : wv335.cell? ⟨g151, 1, none⟩ = some (.int .i64 F.den) := HX349.out.cell 1
      have c354 : wv335.cell? ⟨g178, 0, none⟩ = some (.int .i64 F.num) := HX350.out.cell 0
      have c355 : wv335.cell? ⟨g178, 1, none⟩ = some (.int .i64 F.den) := HX350.out.cell 1
      have hgd := guardVx
      have hq356 := fun wx => neqVx F wx
      have c357 : wv335.cell? ⟨g239, 0, none⟩ = some (.int .i64 F2.num) := HX351.out.cell 0
      have c358 : wv335.cell? ⟨g239, 1, none⟩ = some (.int .i64 F2.den) := HX351.out.cell 1
      have c359 : wv335.cell? ⟨g334, 0, none⟩ = some (.int .i64 F2.num) := HX332.out.cell 0
      have c360 : wv335.cell? ⟨g334, 1, none⟩ = some (.int .i64 F2.den) := HX332.out.cell 1
      have hq361 := fun wx => neqVx F2 wx
      have c362 : wv335.cell? ⟨g125, 0, none⟩ = some (.int .i64 pc.time) := HX348.out.cell 0
      have c363 : wv335.cell? ⟨g125, 1, none⟩ = some (.int .i64 pc.mag) := HX348.out.cell 1
      have i364 : IntKind.i64.wrap (pc.time + 100) = pc.time + 100 := IntWalk.i64_in _ (by omega)
      go_wp2_with fail
      go_ret
      exact ⟨rfl, HB345.out⟩
    · have dfar : decide (10000000 < pc.time + 100) = false := decide_eq_false hfar
      have HLT := Lib.hid (vx_later HCC.out HF.out (by omega))
      clear hfar
      have HX365 := CAt.new wv256 #[.int .i64 F2.num, .int .i64 F2.den] 51
      have hb366 := (Below.refl wv256.heap.size wv256).alloc (Nat.le_refl _) (.cells #[.int .i64 F2.num, .int .i64 F2.den] 51)
      obtain ⟨wv368, HW369⟩ : ∃ wx, wv256.alloc (.cells #[.int .i64 F2.num, .int .i64 F2.den] 51) = wx := ⟨_, rfl⟩
      obtain ⟨g367, HG370⟩ : ∃ gx, wv256.heap.size = gx := ⟨_, rfl⟩
      rw [HW369] at HX365 hb366
      rw [HG370] at HX365
      have hge371 : w.heap.size ≤ g367 := by rw [← HG370]; exact HB258.out.size
      have hlt372 : g106 < g367 := by rw [← HG370]; exact HX259.out.lt
      have hlt373 : g114 < g367 := by rw [← HG370]; exact HX260.out.lt
      have hlt374 : g125 < g367 := by rw [← HG370]; exact HX261.out.lt
      have hlt375 : g151 < g367 := by rw [← HG370]; exact HX262.out.lt
      have hlt376 : g178 < g367 := by rw [← HG370]; exact HX263.out.lt
      have hlt377 : g239 < g367 := by rw [← HG370]; exact HX264.out.lt
      have HX365_ := Lib.hid HX365
      clear HX365
      have HX365 := HX365_
      clear HX365_
      have HW369_ := Lib.hid HW369
      clear HW369
      have HW369 := HW369_
      clear HW369_
      have HG370_ := Lib.hid HG370
      clear HG370
      have HG370 := HG370_
      clear HG370_
      have HB378 : Hid (Below w.heap.size w wv368) := Lib.hid (HB258.out.trans (hb366.mono HB258.out.size))
      have HX379 := Lib.hid (HX259.out.below hb366)
      have HX380 := Lib.hid (HX260.out.below hb366)
      have HX381 := Lib.hid (HX261.out.below hb366)
      have HX382 := Lib.hid (HX262.out.below hb366)
      have HX383 := Lib.hid (HX263.out.below hb366)
      have HX384 := Lib.hid (HX264.out.below hb366)
      clear hb366
      go_upto_region 11 with (fail)
      rw [HW369.out]
      rw [HG370.out]
      have c385 : wv368.cell? ⟨g151, 0, none⟩ = some (.int .i64 F.num) := HX382.out.cell 0
      have c386 : wv368.cell? ⟨g151, 1, none⟩ = some (.int .i64 F.den) := HX382.out.cell 1
      have c387 : wv368.cell? ⟨g178, 0, none⟩ = some (.int .i64 F.num) := HX383.out.cell 0
      have c388 : wv368.cell? ⟨g178, 1, none⟩ = some (.int .i64 F.den) := HX383.out.cell 1
      have hgd := guardVx
      have hq389 := fun wx => neqVx F wx
      have c390 : wv368.cell? ⟨g239, 0, none⟩ = some (.int .i64 F2.num) := HX384.out.cell 0
      have c391 : wv368.cell? ⟨g239, 1, none⟩ = some (.int .i64 F2.den) := HX384.out.cell 1
      have c392 : wv368.cell? ⟨g367, 0, none⟩ = some (.int .i64 F2.num) := HX365.out.cell 0
      have c393 : wv368.cell? ⟨g367, 1, none⟩ = some (.int .i64 F2.den) := HX365.out.cell 1
      have hq394 := fun wx => neqVx F2 wx
      have c395 : wv368.cell? ⟨g125, 0, none⟩ = some (.int .i64 pc.time) := HX381.out.cell 0
      have c396 : wv368.cell? ⟨g125, 1, none⟩ = some (.int .i64 pc.mag) := HX381.out.cell 1
      have i397 : IntKind.i64.wrap (pc.time + 100) = pc.time + 100 := IntWalk.i64_in _ (by omega)
      have c398 : wv368.cell? ⟨g106, 0, none⟩ = some (.int .i64 pa.time) := HX379.out.cell 0
      have c399 : wv368.cell? ⟨g106, 1, none⟩ = some (.int .i64 pa.mag) := HX379.out.cell 1
      have HX400 := CAt.new wv368 #[.int .i64 pa.time, .int .i64 pa.mag] 42
      have hb401 := (Below.refl wv368.heap.size wv368).alloc (Nat.le_refl _) (.cells #[.int .i64 pa.time, .int .i64 pa.mag] 42)
      obtain ⟨wv403, HW404⟩ : ∃ wx, wv368.alloc (.cells #[.int .i64 pa.time, .int .i64 pa.mag] 42) = wx := ⟨_, rfl⟩
      obtain ⟨g402, HG405⟩ : ∃ gx, wv368.heap.size = gx := ⟨_, rfl⟩
      rw [HW404] at HX400 hb401
      rw [HG405] at HX400
      have hge406 : w.heap.size ≤ g402 := by rw [← HG405]; exact HB378.out.size
      have hlt407 : g106 < g402 := by rw [← HG405]; exact HX379.out.lt
      have hlt408 : g114 < g402 := by rw [← HG405]; exact HX380.out.lt
      have hlt409 : g125 < g402 := by rw [← HG405]; exact HX381.out.lt
      have hlt410 : g151 < g402 := by rw [← HG405]; exact HX382.out.lt
      have hlt411 : g178 < g402 := by rw [← HG405]; exact HX383.out.lt
      have hlt412 : g239 < g402 := by rw [← HG405]; exact HX384.out.lt
      have hlt413 : g367 < g402 := by rw [← HG405]; exact HX365.out.lt
      have HX400_ := Lib.hid HX400
      clear HX400
      have HX400 := HX400_
      clear HX400_
      have HW404_ := Lib.hid HW404
      clear HW404
      have HW404 := HW404_
      clear HW404_
      have HG405_ := Lib.hid HG405
      clear HG405
      have HG405 := HG405_
      clear HG405_
      have HB414 : Hid (Below w.heap.size w wv403) := Lib.hid (HB378.out.trans (hb401.mono HB378.out.size))
      have HX415 := Lib.hid (HX379.out.below hb401)
      have HX416 := Lib.hid (HX380.out.below hb401)
      have HX417 := Lib.hid (HX381.out.below hb401)
      have HX418 := Lib.hid (HX382.out.below hb401)
      have HX419 := Lib.hid (HX383.out.below hb401)
      have HX420 := Lib.hid (HX384.out.below hb401)
      have HX421 := Lib.hid (HX365.out.below hb401)
      clear hb401
      go_upto_region 16 with (fail)
      rw [HW404.out]
      rw [HG405.out]
      clear c385 c386 c387 c388 hgd hq389 c390 c391 c392 c393 hq394 c395 c396 i397 c398 c399
      have c422 : wv403.cell? ⟨g114, 0, none⟩ = some (.int .i64 pb.time) := HX416.out.cell 0
      have c423 : wv403.cell? ⟨g114, 1, none⟩ = some (.int .i64 pb.mag) := HX416.out.cell 1
      have HX424 := CAt.new wv403 #[.int .i64 pb.time, .int .i64 pb.mag] 42
      have hb425 := (Below.refl wv403.heap.size wv403).alloc (Nat.le_refl _) (.cells #[.int .i64 pb.time, .int .i64 pb.mag] 42)
      obtain ⟨wv427, HW428⟩ : ∃ wx, wv403.alloc (.cells #[.int .i64 pb.time, .int .i64 pb.mag] 42) = wx := ⟨_, rfl⟩
      obtain ⟨g426, HG429⟩ : ∃ gx, wv403.heap.size = gx := ⟨_, rfl⟩
      rw [HW428] at HX424 hb425
      rw [HG429] at HX424
      have hge430 : w.heap.size ≤ g426 := by rw [← HG429]; exact HB414.out.size
      have hlt431 : g106 < g426 := by rw [← HG429]; exact HX415.out.lt
      have hlt432 : g114 < g426 := by rw [← HG429]; exact HX416.out.lt
      have hlt433 : g125 < g426 := by rw [← HG429]; exact HX417.out.lt
      have hlt434 : g151 < g426 := by rw [← HG429]; exact HX418.out.lt
      have hlt435 : g178 < g426 := by rw [← HG429]; exact HX419.out.lt
      have hlt436 : g239 < g426 := by rw [← HG429]; exact HX420.out.lt
      have hlt437 : g367 < g426 := by rw [← HG429]; exact HX421.out.lt
      have hlt438 : g402 < g426 := by rw [← HG429]; exact HX400.out.lt
      have HX424_ := Lib.hid HX424
      clear HX424
      have HX424 := HX424_
      clear HX424_
      have HW428_ := Lib.hid HW428
      clear HW428
      have HW428 := HW428_
      clear HW428_
      have HG429_ := Lib.hid HG429
      clear HG429
      have HG429 := HG429_
      clear HG429_
      have HB439 : Hid (Below w.heap.size w wv427) := Lib.hid (HB414.out.trans (hb425.mono HB414.out.size))
      have HX440 := Lib.hid (HX415.out.below hb425)
      have HX441 := Lib.hid (HX416.out.below hb425)
      have HX442 := Lib.hid (HX417.out.below hb425)
      have HX443 := Lib.hid (HX418.out.below hb425)
      have HX444 := Lib.hid (HX419.out.below hb425)
      have HX445 := Lib.hid (HX420.out.below hb425)
      have HX446 := Lib.hid (HX421.out.below hb425)
      have HX447 := Lib.hid (HX400.out.below hb425)
      clear hb425
      go_upto_region 17 with (fail)
      rw [HW428.out]
      rw [HG429.out]
      clear c422 c423
      have c448 : wv427.cell? ⟨g125, 0, none⟩ = some (.int .i64 pc.time) := HX442.out.cell 0
      have c449 : wv427.cell? ⟨g125, 1, none⟩ = some (.int .i64 pc.mag) := HX442.out.cell 1
      have HX450 := CAt.new wv427 #[.int .i64 pc.time, .int .i64 pc.mag] 42
      have hb451 := (Below.refl wv427.heap.size wv427).alloc (Nat.le_refl _) (.cells #[.int .i64 pc.time, .int .i64 pc.mag] 42)
      obtain ⟨wv453, HW454⟩ : ∃ wx, wv427.alloc (.cells #[.int .i64 pc.time, .int .i64 pc.mag] 42) = wx := ⟨_, rfl⟩
      obtain ⟨g452, HG455⟩ : ∃ gx, wv427.heap.size = gx := ⟨_, rfl⟩
      rw [HW454] at HX450 hb451
      rw [HG455] at HX450
      have hge456 : w.heap.size ≤ g452 := by rw [← HG455]; exact HB439.out.size
      have hlt457 : g106 < g452 := by rw [← HG455]; exact HX440.out.lt
      have hlt458 : g114 < g452 := by rw [← HG455]; exact HX441.out.lt
      have hlt459 : g125 < g452 := by rw [← HG455]; exact HX442.out.lt
      have hlt460 : g151 < g452 := by rw [← HG455]; exact HX443.out.lt
      have hlt461 : g178 < g452 := by rw [← HG455]; exact HX444.out.lt
      have hlt462 : g239 < g452 := by rw [← HG455]; exact HX445.out.lt
      have hlt463 : g367 < g452 := by rw [← HG455]; exact HX446.out.lt
      have hlt464 : g402 < g452 := by rw [← HG455]; exact HX447.out.lt
      have hlt465 : g426 < g452 := by rw [← HG455]; exact HX424.out.lt
      have HX450_ := Lib.hid HX450
      clear HX450
      have HX450 := HX450_
      clear HX450_
      have HW454_ := Lib.hid HW454
      clear HW454
      have HW454 := HW454_
      clear HW454_
      have HG455_ := Lib.hid HG455
      clear HG455
      have HG455 := HG455_
      clear HG455_
      have HB466 : Hid (Below w.heap.size w wv453) := Lib.hid (HB439.out.trans (hb451.mono HB439.out.size))
      have HX467 := Lib.hid (HX440.out.below hb451)
      have HX468 := Lib.hid (HX441.out.below hb451)
      have HX469 := Lib.hid (HX442.out.below hb451)
      have HX470 := Lib.hid (HX443.out.below hb451)
      have HX471 := Lib.hid (HX444.out.below hb451)
      have HX472 := Lib.hid (HX445.out.below hb451)
      have HX473 := Lib.hid (HX446.out.below hb451)
      have HX474 := Lib.hid (HX447.out.below hb451)
      have HX475 := Lib.hid (HX424.out.below hb451)
      clear hb451
      go_upto_region 18 with (fail)
      rw [HW454.out]
      rw [HG455.out]
      clear c448 c449
      have c476 : wv453.cell? ⟨g106, 0, none⟩ = some (.int .i64 pa.time) := HX467.out.cell 0
      have c477 : wv453.cell? ⟨g106, 1, none⟩ = some (.int .i64 pa.mag) := HX467.out.cell 1
      have i478 : IntKind.i64.wrap (pa.time + 100) = pa.time + 100 := IntWalk.i64_in _ (by omega)
      have c479 : wv453.cell? ⟨g402, 0, none⟩ = some (.int .i64 pa.time) := HX474.out.cell 0
      have c480 : wv453.cell? ⟨g402, 1, none⟩ = some (.int .i64 pa.mag) := HX474.out.cell 1
      have f481 : wv453.frozen? ⟨g402, 0, none⟩ = false := (HX474.out).free 0
      have HX482 := Lib.hid ((HX474.out).set 0 (.int .i64 (pa.time + 100)))
      have HB483 := Lib.hid ((HB466.out).setCell (p := ⟨g402, 0, none⟩) hge406 (.int .i64 (pa.time + 100)))
      obtain ⟨wv484, HW485⟩ : ∃ wx, (wv453.setCell ⟨g402, 0, none⟩ (.int .i64 (pa.time + 100))) = wx := ⟨_, rfl⟩
      rw [HW485] at HX482 HB483
      have HW485_ := Lib.hid HW485
      clear HW485
      have HW485 := HW485_
      clear HW485_
      have HX486 := (HX467.out).setNe (show g106 ≠ g402 by omega) 0 (.int .i64 (pa.time + 100))
      rw [HW485.out] at HX486
      have HX486_ := Lib.hid HX486
      clear HX486
      have HX486 := HX486_
      clear HX486_
      have HX487 := (HX468.out).setNe (show g114 ≠ g402 by omega) 0 (.int .i64 (pa.time + 100))
      rw [HW485.out] at HX487
      have HX487_ := Lib.hid HX487
      clear HX487
      have HX487 := HX487_
      clear HX487_
      have HX488 := (HX469.out).setNe (show g125 ≠ g402 by omega) 0 (.int .i64 (pa.time + 100))
      rw [HW485.out] at HX488
      have HX488_ := Lib.hid HX488
      clear HX488
      have HX488 := HX488_
      clear HX488_
      have HX489 := (HX470.out).setNe (show g151 ≠ g402 by omega) 0 (.int .i64 (pa.time + 100))
      rw [HW485.out] at HX489
      have HX489_ := Lib.hid HX489
      clear HX489
      have HX489 := HX489_
      clear HX489_
      have HX490 := (HX471.out).setNe (show g178 ≠ g402 by omega) 0 (.int .i64 (pa.time + 100))
      rw [HW485.out] at HX490
      have HX490_ := Lib.hid HX490
      clear HX490
      have HX490 := HX490_
      clear HX490_
      have HX491 := (HX472.out).setNe (show g239 ≠ g402 by omega) 0 (.int .i64 (pa.time + 100))
      rw [HW485.out] at HX491
      have HX491_ := Lib.hid HX491
      clear HX491
      have HX491 := HX491_
      clear HX491_
      have HX492 := (HX473.out).setNe (show g367 ≠ g402 by omega) 0 (.int .i64 (pa.time + 100))
      rw [HW485.out] at HX492
      have HX492_ := Lib.hid HX492
      clear HX492
      have HX492 := HX492_
      clear HX492_
      have HX493 := (HX475.out).setNe (show g426 ≠ g402 by omega) 0 (.int .i64 (pa.time + 100))
      rw [HW485.out] at HX493
      have HX493_ := Lib.hid HX493
      clear HX493
      have HX493 := HX493_
      clear HX493_
      have HX494 := (HX450.out).setNe (show g452 ≠ g402 by omega) 0 (.int .i64 (pa.time + 100))
      rw [HW485.out] at HX494
      have HX494_ := Lib.hid HX494
      clear HX494
      have HX494 := HX494_
      clear HX494_
      go_upto_region 19 with (fail)
      rw [HW485.out]
      clear HW485 c476 c477 i478 c479 c480 f481
      have c495 : wv484.cell? ⟨g114, 0, none⟩ = some (.int .i64 pb.time) := HX487.out.cell 0
      have c496 : wv484.cell? ⟨g114, 1, none⟩ = some (.int .i64 pb.mag) := HX487.out.cell 1
      have i497 : IntKind.i64.wrap (pb.time + 100) = pb.time + 100 := IntWalk.i64_in _ (by omega)
      have c498 : wv484.cell? ⟨g426, 0, none⟩ = some (.int .i64 pb.time) := HX493.out.cell 0
      have c499 : wv484.cell? ⟨g426, 1, none⟩ = some (.int .i64 pb.mag) := HX493.out.cell 1
      have f500 : wv484.frozen? ⟨g426, 0, none⟩ = false := (HX493.out).free 0
      have HX501 := Lib.hid ((HX493.out).set 0 (.int .i64 (pb.time + 100)))
      have HB502 := Lib.hid ((HB483.out).setCell (p := ⟨g426, 0, none⟩) hge430 (.int .i64 (pb.time + 100)))
      obtain ⟨wv503, HW504⟩ : ∃ wx, (wv484.setCell ⟨g426, 0, none⟩ (.int .i64 (pb.time + 100))) = wx := ⟨_, rfl⟩
      rw [HW504] at HX501 HB502
      have HW504_ := Lib.hid HW504
      clear HW504
      have HW504 := HW504_
      clear HW504_
      have HX505 := (HX486.out).setNe (show g106 ≠ g426 by omega) 0 (.int .i64 (pb.time + 100))
      rw [HW504.out] at HX505
      have HX505_ := Lib.hid HX505
      clear HX505
      have HX505 := HX505_
      clear HX505_
      have HX506 := (HX487.out).setNe (show g114 ≠ g426 by omega) 0 (.int .i64 (pb.time + 100))
      rw [HW504.out] at HX506
      have HX506_ := Lib.hid HX506
      clear HX506
      have HX506 := HX506_
      clear HX506_
      have HX507 := (HX488.out).setNe (show g125 ≠ g426 by omega) 0 (.int .i64 (pb.time + 100))
      rw [HW504.out] at HX507
      have HX507_ := Lib.hid HX507
      clear HX507
      have HX507 := HX507_
      clear HX507_
      have HX508 := (HX489.out).setNe (show g151 ≠ g426 by omega) 0 (.int .i64 (pb.time + 100))
      rw [HW504.out] at HX508
      have HX508_ := Lib.hid HX508
      clear HX508
      have HX508 := HX508_
      clear HX508_
      have HX509 := (HX490.out).setNe (show g178 ≠ g426 by omega) 0 (.int .i64 (pb.time + 100))
      rw [HW504.out] at HX509
      have HX509_ := Lib.hid HX509
      clear HX509
      have HX509 := HX509_
      clear HX509_
      have HX510 := (HX491.out).setNe (show g239 ≠ g426 by omega) 0 (.int .i64 (pb.time + 100))
      rw [HW504.out] at HX510
      have HX510_ := Lib.hid HX510
      clear HX510
      have HX510 := HX510_
      clear HX510_
      have HX511 := (HX492.out).setNe (show g367 ≠ g426 by omega) 0 (.int .i64 (pb.time + 100))
      rw [HW504.out] at HX511
      have HX511_ := Lib.hid HX511
      clear HX511
      have HX511 := HX511_
      clear HX511_
      have HX512 := (HX482.out).setNe (show g402 ≠ g426 by omega) 0 (.int .i64 (pb.time + 100))
      rw [HW504.out] at HX512
      have HX512_ := Lib.hid HX512
      clear HX512
      have HX512 := HX512_
      clear HX512_
      have HX513 := (HX494.out).setNe (show g452 ≠ g426 by omega) 0 (.int .i64 (pb.time + 100))
      rw [HW504.out] at HX513
      have HX513_ := Lib.hid HX513
      clear HX513
      have HX513 := HX513_
      clear HX513_
      go_upto_region 20 with (fail)
      rw [HW504.out]
      clear HW504 c495 c496 i497 c498 c499 f500
      have c514 : wv503.cell? ⟨g125, 0, none⟩ = some (.int .i64 pc.time) := HX507.out.cell 0
      have c515 : wv503.cell? ⟨g125, 1, none⟩ = some (.int .i64 pc.mag) := HX507.out.cell 1
      have i516 : IntKind.i64.wrap (pc.time + 100) = pc.time + 100 := IntWalk.i64_in _ (by omega)
      have c517 : wv503.cell? ⟨g452, 0, none⟩ = some (.int .i64 pc.time) := HX513.out.cell 0
      have c518 : wv503.cell? ⟨g452, 1, none⟩ = some (.int .i64 pc.mag) := HX513.out.cell 1
      have f519 : wv503.frozen? ⟨g452, 0, none⟩ = false := (HX513.out).free 0
      have HX520 := Lib.hid ((HX513.out).set 0 (.int .i64 (pc.time + 100)))
      have HB521 := Lib.hid ((HB502.out).setCell (p := ⟨g452, 0, none⟩) hge456 (.int .i64 (pc.time + 100)))
      obtain ⟨wv522, HW523⟩ : ∃ wx, (wv503.setCell ⟨g452, 0, none⟩ (.int .i64 (pc.time + 100))) = wx := ⟨_, rfl⟩
      rw [HW523] at HX520 HB521
      have HW523_ := Lib.hid HW523
      clear HW523
      have HW523 := HW523_
      clear HW523_
      have HX524 := (HX505.out).setNe (show g106 ≠ g452 by omega) 0 (.int .i64 (pc.time + 100))
      rw [HW523.out] at HX524
      have HX524_ := Lib.hid HX524
      clear HX524
      have HX524 := HX524_
      clear HX524_
      have HX525 := (HX506.out).setNe (show g114 ≠ g452 by omega) 0 (.int .i64 (pc.time + 100))
      rw [HW523.out] at HX525
      have HX525_ := Lib.hid HX525
      clear HX525
      have HX525 := HX525_
      clear HX525_
      have HX526 := (HX507.out).setNe (show g125 ≠ g452 by omega) 0 (.int .i64 (pc.time + 100))
      rw [HW523.out] at HX526
      have HX526_ := Lib.hid HX526
      clear HX526
      have HX526 := HX526_
      clear HX526_
      have HX527 := (HX508.out).setNe (show g151 ≠ g452 by omega) 0 (.int .i64 (pc.time + 100))
      rw [HW523.out] at HX527
      have HX527_ := Lib.hid HX527
      clear HX527
      have HX527 := HX527_
      clear HX527_
      have HX528 := (HX509.out).setNe (show g178 ≠ g452 by omega) 0 (.int .i64 (pc.time + 100))
      rw [HW523.out] at HX528
      have HX528_ := Lib.hid HX528
      clear HX528
      have HX528 := HX528_
      clear HX528_
      have HX529 := (HX510.out).setNe (show g239 ≠ g452 by omega) 0 (.int .i64 (pc.time + 100))
      rw [HW523.out] at HX529
      have HX529_ := Lib.hid HX529
      clear HX529
      have HX529 := HX529_
      clear HX529_
      have HX530 := (HX511.out).setNe (show g367 ≠ g452 by omega) 0 (.int .i64 (pc.time + 100))
      rw [HW523.out] at HX530
      have HX530_ := Lib.hid HX530
      clear HX530
      have HX530 := HX530_
      clear HX530_
      have HX531 := (HX512.out).setNe (show g402 ≠ g452 by omega) 0 (.int .i64 (pc.time + 100))
      rw [HW523.out] at HX531
      have HX531_ := Lib.hid HX531
      clear HX531
      have HX531 := HX531_
      clear HX531_
      have HX532 := (HX501.out).setNe (show g426 ≠ g452 by omega) 0 (.int .i64 (pc.time + 100))
      rw [HW523.out] at HX532
      have HX532_ := Lib.hid HX532
      clear HX532
      have HX532 := HX532_
      clear HX532_
      go_upto_region 21 with (fail)
      rw [HW523.out]
      clear HW523 c514 c515 i516 c517 c518 f519
      have c533 : wv522.cell? ⟨g402, 0, none⟩ = some (.int .i64 (pa.time + 100)) := HX531.out.cell 0
      have c534 : wv522.cell? ⟨g402, 1, none⟩ = some (.int .i64 pa.mag) := HX531.out.cell 1
      have c535 : wv522.cell? ⟨g426, 0, none⟩ = some (.int .i64 (pb.time + 100)) := HX532.out.cell 0
      have c536 : wv522.cell? ⟨g426, 1, none⟩ = some (.int .i64 pb.mag) := HX532.out.cell 1
      have c537 : wv522.cell? ⟨g452, 0, none⟩ = some (.int .i64 (pc.time + 100)) := HX520.out.cell 0
      have c538 : wv522.cell? ⟨g452, 1, none⟩ = some (.int .i64 pc.mag) := HX520.out.cell 1
      go_wp2_with fail
      refine (imVertexTime_any pa.later pb.later pc.later _).mono ?_
      rintro e wv539 ⟨rfl, hb540⟩
      clear c533 c534 c535 c536 c537 c538
      have HB541 : Hid (Below w.heap.size w wv539) := Lib.hid (HB521.out.trans (hb540.mono HB521.out.size))
      have HX542 := Lib.hid (HX524.out.below hb540)
      have HX543 := Lib.hid (HX525.out.below hb540)
      have HX544 := Lib.hid (HX526.out.below hb540)
      have HX545 := Lib.hid (HX527.out.below hb540)
      have HX546 := Lib.hid (HX528.out.below hb540)
      have HX547 := Lib.hid (HX529.out.below hb540)
      have HX548 := Lib.hid (HX530.out.below hb540)
      have HX549 := Lib.hid (HX531.out.below hb540)
      have HX550 := Lib.hid (HX532.out.below hb540)
      have HX551 := Lib.hid (HX520.out.below hb540)
      clear hb540
      rw [HLT.out.1, HLT.out.2]
      obtain ⟨G, hG⟩ : ∃ z : Frac, (⟨F.num + 100 * F.den, F.den⟩ : Frac) = z := ⟨_, rfl⟩
      rw [hG]
      have hgn : G.num = F.num + 100 * F.den := by rw [← hG]
      have hgd : G.den = F.den := by rw [← hG]
      have dgn : (G.num != F.num + 100 * F.den) = false := by rw [hgn]; simp
      have dgd : (G.den != F.den) = false := by rw [hgd]; simp
      clear hG hgn hgd
      by_cases hc1 : c1 = 0
      · subst hc1
        have hvo := vm_out HV2.out
        have dc1 : ((0 : Int) != 0) = false := rfl
        obtain ⟨ML1, hML1⟩ : ∃ z, min pb.mag pc.mag = z := ⟨_, rfl⟩
        have kML1 : (if pc.mag < pb.mag then pc.mag else pb.mag) = ML1 := by rw [← hML1]; split <;> omega
        have oML1 : (ML1 = pb.mag ∨ ML1 = pc.mag) := by omega
        obtain ⟨ML2, hML2⟩ : ∃ z, min pa.mag ML1 = z := ⟨_, rfl⟩
        have kML2 : (if ML1 < pa.mag then ML1 else pa.mag) = ML2 := by rw [← hML2]; split <;> omega
        have oML2 : (ML2 = pa.mag ∨ ML2 = ML1) := by omega
        obtain ⟨MH1, hMH1⟩ : ∃ z, max pb.mag pc.mag = z := ⟨_, rfl⟩
        have kMH1 : (if pb.mag < pc.mag then pc.mag else pb.mag) = MH1 := by rw [← hMH1]; split <;> omega
        have oMH1 : (MH1 = pb.mag ∨ MH1 = pc.mag) := by omega
        obtain ⟨MH2, hMH2⟩ : ∃ z, max pa.mag MH1 = z := ⟨_, rfl⟩
        have kMH2 : (if pa.mag < MH1 then MH1 else pa.mag) = MH2 := by rw [← hMH2]; split <;> omega
        have oMH2 : (MH2 = pa.mag ∨ MH2 = MH1) := by omega
        by_cases hlo : r1 ≤ ML2
        · have dlo : decide (r1 ≤ ML2) = true := decide_eq_true hlo
          have HX628 := CAt.new wv539 #[.int .i64 G.num, .int .i64 G.den] 51
          have hb629 := (Below.refl wv539.heap.size wv539).alloc (Nat.le_refl _) (.cells #[.int .i64 G.num, .int .i64 G.den] 51)
          obtain ⟨wv631, HW632⟩ : ∃ wx, wv539.alloc (.cells #[.int .i64 G.num, .int .i64 G.den] 51) = wx := ⟨_, rfl⟩
          obtain ⟨g630, HG633⟩ : ∃ gx, wv539.heap.size = gx := ⟨_, rfl⟩
          rw [HW632] at HX628 hb629
          rw [HG633] at HX628
          have hge634 : w.heap.size ≤ g630 := by rw [← HG633]; exact HB541.out.size
          have hlt635 : g106 < g630 := by rw [← HG633]; exact HX542.out.lt
          have hlt636 : g114 < g630 := by rw [← HG633]; exact HX543.out.lt
          have hlt637 : g125 < g630 := by rw [← HG633]; exact HX544.out.lt
          have hlt638 : g151 < g630 := by rw [← HG633]; exact HX545.out.lt
          have hlt639 : g178 < g630 := by rw [← HG633]; exact HX546.out.lt
          have hlt640 : g239 < g630 := by rw [← HG633]; exact HX547.out.lt
          have hlt641 : g367 < g630 := by rw [← HG633]; exact HX548.out.lt
          have hlt642 : g402 < g630 := by rw [← HG633]; exact HX549.out.lt
          have hlt643 : g426 < g630 := by rw [← HG633]; exact HX550.out.lt
          have hlt644 : g452 < g630 := by rw [← HG633]; exact HX551.out.lt
          have HX628_ := Lib.hid HX628
          clear HX628
          have HX628 := HX628_
          clear HX628_
          have HW632_ := Lib.hid HW632
          clear HW632
          have HW632 := HW632_
          clear HW632_
          have HG633_ := Lib.hid HG633
          clear HG633
          have HG633 := HG633_
          clear HG633_
          have HB645 : Hid (Below w.heap.size w wv631) := Lib.hid (HB541.out.trans (hb629.mono HB541.out.size))
          have HX646 := Lib.hid (HX542.out.below hb629)
          have HX647 := Lib.hid (HX543.out.below hb629)
          have HX648 := Lib.hid (HX544.out.below hb629)
          have HX649 := Lib.hid (HX545.out.below hb629)
          have HX650 := Lib.hid (HX546.out.below hb629)
          have HX651 := Lib.hid (HX547.out.below hb629)
          have HX652 := Lib.hid (HX548.out.below hb629)
          have HX653 := Lib.hid (HX549.out.below hb629)
          have HX654 := Lib.hid (HX550.out.below hb629)
          have HX655 := Lib.hid (HX551.out.below hb629)
          clear hb629
          go_upto_region 22 with (fail)
          rw [HW632.out]
          rw [HG633.out]
          have c656 : wv631.cell? ⟨g630, 0, none⟩ = some (.int .i64 G.num) := HX628.out.cell 0
          have c657 : wv631.cell? ⟨g630, 1, none⟩ = some (.int .i64 G.den) := HX628.out.cell 1
          have c658 : wv631.cell? ⟨g151, 0, none⟩ = some (.int .i64 F.num) := HX649.out.cell 0
          have c659 : wv631.cell? ⟨g151, 1, none⟩ = some (.int .i64 F.den) := HX649.out.cell 1
          have i660 : IntKind.i64.wrap (100 * F.den) = 100 * F.den := IntWalk.i64_in _ (by omega)
          have i661 : IntKind.i64.wrap (F.num + (100 * F.den)) = F.num + (100 * F.den) := IntWalk.i64_in _ (by omega)
          have c662 : wv631.cell? ⟨g106, 0, none⟩ = some (.int .i64 pa.time) := HX646.out.cell 0
          have c663 : wv631.cell? ⟨g106, 1, none⟩ = some (.int .i64 pa.mag) := HX646.out.cell 1
          have c664 : wv631.cell? ⟨g114, 0, none⟩ = some (.int .i64 pb.time) := HX647.out.cell 0
          have c665 : wv631.cell? ⟨g114, 1, none⟩ = some (.int .i64 pb.mag) := HX647.out.cell 1
          have c666 : wv631.cell? ⟨g125, 0, none⟩ = some (.int .i64 pc.time) := HX648.out.cell 0
          have c667 : wv631.cell? ⟨g125, 1, none⟩ = some (.int .i64 pc.mag) := HX648.out.cell 1
          go_wp2_with fail
          go_ret
          exact ⟨rfl, HB645.out⟩
        · have dlo : decide (r1 ≤ ML2) = false := decide_eq_false hlo
          have dhi : decide (MH2 ≤ r1) = true := decide_eq_true (by omega)
          have HX668 := CAt.new wv539 #[.int .i64 G.num, .int .i64 G.den] 51
          have hb669 := (Below.refl wv539.heap.size wv539).alloc (Nat.le_refl _) (.cells #[.int .i64 G.num, .int .i64 G.den] 51)
          obtain ⟨wv671, HW672⟩ : ∃ wx, wv539.alloc (.cells #[.int .i64 G.num, .int .i64 G.den] 51) = wx := ⟨_, rfl⟩
          obtain ⟨g670, HG673⟩ : ∃ gx, wv539.heap.size = gx := ⟨_, rfl⟩
          rw [HW672] at HX668 hb669
          rw [HG673] at HX668
          have hge674 : w.heap.size ≤ g670 := by rw [← HG673]; exact HB541.out.size
          have hlt675 : g106 < g670 := by rw [← HG673]; exact HX542.out.lt
          have hlt676 : g114 < g670 := by rw [← HG673]; exact HX543.out.lt
          have hlt677 : g125 < g670 := by rw [← HG673]; exact HX544.out.lt
          have hlt678 : g151 < g670 := by rw [← HG673]; exact HX545.out.lt
          have hlt679 : g178 < g670 := by rw [← HG673]; exact HX546.out.lt
          have hlt680 : g239 < g670 := by rw [← HG673]; exact HX547.out.lt
          have hlt681 : g367 < g670 := by rw [← HG673]; exact HX548.out.lt
          have hlt682 : g402 < g670 := by rw [← HG673]; exact HX549.out.lt
          have hlt683 : g426 < g670 := by rw [← HG673]; exact HX550.out.lt
          have hlt684 : g452 < g670 := by rw [← HG673]; exact HX551.out.lt
          have HX668_ := Lib.hid HX668
          clear HX668
          have HX668 := HX668_
          clear HX668_
          have HW672_ := Lib.hid HW672
          clear HW672
          have HW672 := HW672_
          clear HW672_
          have HG673_ := Lib.hid HG673
          clear HG673
          have HG673 := HG673_
          clear HG673_
          have HB685 : Hid (Below w.heap.size w wv671) := Lib.hid (HB541.out.trans (hb669.mono HB541.out.size))
          have HX686 := Lib.hid (HX542.out.below hb669)
          have HX687 := Lib.hid (HX543.out.below hb669)
          have HX688 := Lib.hid (HX544.out.below hb669)
          have HX689 := Lib.hid (HX545.out.below hb669)
          have HX690 := Lib.hid (HX546.out.below hb669)
          have HX691 := Lib.hid (HX547.out.below hb669)
          have HX692 := Lib.hid (HX548.out.below hb669)
          have HX693 := Lib.hid (HX549.out.below hb669)
          have HX694 := Lib.hid (HX550.out.below hb669)
          have HX695 := Lib.hid (HX551.out.below hb669)
          clear hb669
          go_upto_region 22 with (fail)
          rw [HW672.out]
          rw [HG673.out]
          have c696 : wv671.cell? ⟨g670, 0, none⟩ = some (.int .i64 G.num) := HX668.out.cell 0
          have c697 : wv671.cell? ⟨g670, 1, none⟩ = some (.int .i64 G.den) := HX668.out.cell 1
          have c698 : wv671.cell? ⟨g151, 0, none⟩ = some (.int .i64 F.num) := HX689.out.cell 0
          have c699 : wv671.cell? ⟨g151, 1, none⟩ = some (.int .i64 F.den) := HX689.out.cell 1
          have i700 : IntKind.i64.wrap (100 * F.den) = 100 * F.den := IntWalk.i64_in _ (by omega)
          have i701 : IntKind.i64.wrap (F.num + (100 * F.den)) = F.num + (100 * F.den) := IntWalk.i64_in _ (by omega)
          have c702 : wv671.cell? ⟨g106, 0, none⟩ = some (.int .i64 pa.time) := HX686.out.cell 0
          have c703 : wv671.cell? ⟨g106, 1, none⟩ = some (.int .i64 pa.mag) := HX686.out.cell 1
          have c704 : wv671.cell? ⟨g114, 0, none⟩ = some (.int .i64 pb.time) := HX687.out.cell 0
          have c705 : wv671.cell? ⟨g114, 1, none⟩ = some (.int .i64 pb.mag) := HX687.out.cell 1
          have c706 : wv671.cell? ⟨g125, 0, none⟩ = some (.int .i64 pc.time) := HX688.out.cell 0
          have c707 : wv671.cell? ⟨g125, 1, none⟩ = some (.int .i64 pc.mag) := HX688.out.cell 1
          go_wp2_with fail
          go_ret
          exact ⟨rfl, HB685.out⟩
      · have dc1 : (c1 != 0) = true := bne_iff_ne.2 hc1
        have HX708 := CAt.new wv539 #[.int .i64 G.num, .int .i64 G.den] 51
        have hb709 := (Below.refl wv539.heap.size wv539).alloc (Nat.le_refl _) (.cells #[.int .i64 G.num, .int .i64 G.den] 51)
        obtain ⟨wv711, HW712⟩ : ∃ wx, wv539.alloc (.cells #[.int .i64 G.num, .int .i64 G.den] 51) = wx := ⟨_, rfl⟩
        obtain ⟨g710, HG713⟩ : ∃ gx, wv539.heap.size = gx := ⟨_, rfl⟩
        rw [HW712] at HX708 hb709
        rw [HG713] at HX708
        have hge714 : w.heap.size ≤ g710 := by rw [← HG713]; exact HB541.out.size
        have hlt715 : g106 < g710 := by rw [← HG713]; exact HX542.out.lt
        have hlt716 : g114 < g710 := by rw [← HG713]; exact HX543.out.lt
        have hlt717 : g125 < g710 := by rw [← HG713]; exact HX544.out.lt
        have hlt718 : g151 < g710 := by rw [← HG713]; exact HX545.out.lt
        have hlt719 : g178 < g710 := by rw [← HG713]; exact HX546.out.lt
        have hlt720 : g239 < g710 := by rw [← HG713]; exact HX547.out.lt
        have hlt721 : g367 < g710 := by rw [← HG713]; exact HX548.out.lt
        have hlt722 : g402 < g710 := by rw [← HG713]; exact HX549.out.lt
        have hlt723 : g426 < g710 := by rw [← HG713]; exact HX550.out.lt
        have hlt724 : g452 < g710 := by rw [← HG713]; exact HX551.out.lt
        have HX708_ := Lib.hid HX708
        clear HX708
        have HX708 := HX708_
        clear HX708_
        have HW712_ := Lib.hid HW712
        clear HW712
        have HW712 := HW712_
        clear HW712_
        have HG713_ := Lib.hid HG713
        clear HG713
        have HG713 := HG713_
        clear HG713_
        have HB725 : Hid (Below w.heap.size w wv711) := Lib.hid (HB541.out.trans (hb709.mono HB541.out.size))
        have HX726 := Lib.hid (HX542.out.below hb709)
        have HX727 := Lib.hid (HX543.out.below hb709)
        have HX728 := Lib.hid (HX544.out.below hb709)
        have HX729 := Lib.hid (HX545.out.below hb709)
        have HX730 := Lib.hid (HX546.out.below hb709)
        have HX731 := Lib.hid (HX547.out.below hb709)
        have HX732 := Lib.hid (HX548.out.below hb709)
        have HX733 := Lib.hid (HX549.out.below hb709)
        have HX734 := Lib.hid (HX550.out.below hb709)
        have HX735 := Lib.hid (HX551.out.below hb709)
        clear hb709
        go_upto_region 22 with (fail)
        rw [HW712.out]
        rw [HG713.out]
        have c736 : wv711.cell? ⟨g710, 0, none⟩ = some (.int .i64 G.num) := HX708.out.cell 0
        have c737 : wv711.cell? ⟨g710, 1, none⟩ = some (.int .i64 G.den) := HX708.out.cell 1
        have c738 : wv711.cell? ⟨g151, 0, none⟩ = some (.int .i64 F.num) := HX729.out.cell 0
        have c739 : wv711.cell? ⟨g151, 1, none⟩ = some (.int .i64 F.den) := HX729.out.cell 1
        have i740 : IntKind.i64.wrap (100 * F.den) = 100 * F.den := IntWalk.i64_in _ (by omega)
        have i741 : IntKind.i64.wrap (F.num + (100 * F.den)) = F.num + (100 * F.den) := IntWalk.i64_in _ (by omega)
        go_wp2_with fail
        go_ret
        exact ⟨rfl, HB725.out⟩
  · have dcz : (C != 0) = true := bne_iff_ne.2 hcz
    have HX742 := CAt.new wv256 #[.int .i64 F2.num, .int .i64 F2.den] 51
    have hb743 := (Below.refl wv256.heap.size wv256).alloc (Nat.le_refl _) (.cells #[.int .i64 F2.num, .int .i64 F2.den] 51)
    obtain ⟨wv745, HW746⟩ : ∃ wx, wv256.alloc (.cells #[.int .i64 F2.num, .int .i64 F2.den] 51) = wx := ⟨_, rfl⟩
    obtain ⟨g744, HG747⟩ : ∃ gx, wv256.heap.size = gx := ⟨_, rfl⟩
    rw [HW746] at HX742 hb743
    rw [HG747] at HX742
    have hge748 : w.heap.size ≤ g744 := by rw [← HG747]; exact HB258.out.size
    have hlt749 : g106 < g744 := by rw [← HG747]; exact HX259.out.lt
    have hlt750 : g114 < g744 := by rw [← HG747]; exact HX260.out.lt
    have hlt751 : g125 < g744 := by rw [← HG747]; exact HX261.out.lt
    have hlt752 : g151 < g744 := by rw [← HG747]; exact HX262.out.lt
    have hlt753 : g178 < g744 := by rw [← HG747]; exact HX263.out.lt
    have hlt754 : g239 < g744 := by rw [← HG747]; exact HX264.out.lt
    have HX742_ := Lib.hid HX742
    clear HX742
    have HX742 := HX742_
    clear HX742_
    have HW746_ := Lib.hid HW746
    clear HW746
    have HW746 := HW746_
    clear HW746_
    have HG747_ := Lib.hid HG747
    clear HG747
    have HG747 := HG747_
    clear HG747_
    have HB755 : Hid (Below w.heap.size w wv745) := Lib.hid (HB258.out.trans (hb743.mono HB258.out.size))
    have HX756 := Lib.hid (HX259.out.below hb743)
    have HX757 := Lib.hid (HX260.out.below hb743)
    have HX758 := Lib.hid (HX261.out.below hb743)
    have HX759 := Lib.hid (HX262.out.below hb743)
    have HX760 := Lib.hid (HX263.out.below hb743)
    have HX761 := Lib.hid (HX264.out.below hb743)
    have HR762 := Lib.hid (HR265.out.below hb743)
    clear hb743
    go_upto_region 11 with (fail)
    rw [HW746.out]
    rw [HG747.out]
    have c763 : wv745.cell? ⟨g151, 0, none⟩ = some (.int .i64 F.num) := HX759.out.cell 0
    have c764 : wv745.cell? ⟨g151, 1, none⟩ = some (.int .i64 F.den) := HX759.out.cell 1
    have c765 : wv745.cell? ⟨g178, 0, none⟩ = some (.int .i64 F.num) := HX760.out.cell 0
    have c766 : wv745.cell? ⟨g178, 1, none⟩ = some (.int .i64 F.den) := HX760.out.cell 1
    have hgd := guardVx
    have hq767 := fun wx => neqVx F wx
    have c768 : wv745.cell? ⟨g239, 0, none⟩ = some (.int .i64 F2.num) := HX761.out.cell 0
    have c769 : wv745.cell? ⟨g239, 1, none⟩ = some (.int .i64 F2.den) := HX761.out.cell 1
    have c770 : wv745.cell? ⟨g744, 0, none⟩ = some (.int .i64 F2.num) := HX742.out.cell 0
    have c771 : wv745.cell? ⟨g744, 1, none⟩ = some (.int .i64 F2.den) := HX742.out.cell 1
    have hq772 := fun wx => neqVx F2 wx
    go_wp2_with fail
    go_ret
    exact ⟨rfl, HB755.out⟩

open Go.ChangeShapes Go.WideShapes Go.ChangeAt Go.RowKit
open Go.ChangeMaps (open_string shut_string)
set_option linter.unusedVariables false

theorem own : ownKnob Try.prog.godebug = none := by kernel_rfl
theorem laidOut : laidOutB Try.prog = true := by kernel_rfl

set_option maxRecDepth 100000 in
theorem lifted (os : Os) (started : os.Started) (H : Type) (enc : TypeId × Value → H) :
    ReturnsInHanded {} Try.checked os 5 .any (Rows.fnVerticesSpec.pre6 enc Try.prog Try.f5 Rows.fnVerticesRow.domain false) (Rows.fnVerticesSpec.post enc Try.prog Try.f5 false true false false) := by
  refine returnsInHanded_of_change (C := Try.checked) own started (by kernel_rfl) Try.func5
    (ChangeSpec.witness6 (enc := enc) (C := Try.checked) false ⟨#[], #[.slice none 0 0], []⟩ 8 (by kernel_rfl) (by kernel_rfl) (by kernel_rfl) (by kernel_rfl)) ?_
  intro W base args ds gs before hval0 hW hcnd _
  have hval : ∀ (j : Nat) t v, Try.f5.params[j]? = some t → args[j]? = some v → Value.okWide Try.prog W .any base t v := hval0
  have hW' := hW
  obtain ⟨p, q, hA0, hV, rfl, hfz, hnd⟩ := hW
  have hA : DataW.TrodAll enc Try.prog W 0 (fun _ => true) true Try.f5.params.toList args.toList ds p := hA0
  rw [Try.params5] at hA hval
  obtain ⟨v0, vs0, d0, ds0, p0, q0, hargs, rfl, rfl, h0, r0⟩ := trodAll_cons hA
  obtain ⟨rfl, rfl, rfl⟩ := trodAll_nil r0
  obtain rfl : args = #[v0] := by cases args; simp_all
  obtain ⟨rfl, rfl⟩ := trodVars_none hV
  obtain ⟨a0, n0, c0, rfl⟩ := okWide_slice Try.underlying22 (hval 0 22 v0 rfl rfl)
  have k0 := h0
  have lt0 : ∀ x ∈ p0, x.block < W.heap.size := by obtain ⟨m, hm⟩ := k0; exact DataW.trod_lt m _ _ _ hm
  obtain ⟨x0, l0, m0, o0, w0⟩ := open_bytes h0
  clear hA0 hval0
  refine (law_walk a0 n0 c0 x0 W l0 m0 o0 w0).mono fun e W' ⟨he, bel⟩ => ?_
  subst he
  exact ⟨_, rfl, _, _, _, [], _, [], hW', trodAll_mk1 (shut_bool Try.underlying4 _), (trodAll_cons_mk (Below.trod laidOut (by kernel_rfl) (of_decide_eq_true (by kernel_rfl)) k0 bel lt0) trodAll_mk0), rfl, bel.frame _, fun h => by cases h⟩

theorem over : Rows.fnVerticesRow.holds Try.pinned (OpenSpec.ofChange Rows.fnVerticesSpec) :=
  OpenClaim.holds_of_wide 5 Try.f5 rfl rfl rfl rfl rfl rfl rfl ⟨rfl, rfl, rfl, rfl, rfl⟩ rfl rfl rfl rfl rfl (by kernel_rfl) Try.func5 (by kernel_rfl)
    (of_decide_eq_true (by kernel_rfl)) (by unfold Func.isWrapper; first | (rw [if_pos (by decide +kernel)]; kernel_rfl) | (rw [if_neg (by decide +kernel)]; exact ⟨rfl, rfl⟩))
    (fun os started H enc _ => lifted os started H enc)

/-- the statement -/
theorem proved : Rows.FnVerticesSaid := over
#print axioms proved
end fnVertices
end Go.Proofs.Ytloggipjmaiegaa
