/-
  Parts of the law FnFast: three statements.
-/
import Derived.Test.YtjmojfbebcgjeaaDoorLexR
import Derived.Test.YtjmojfbebcgjeaaDoorFa2
import Derived.Test.YtjmojfbebcgjeaaDoorFaP
import Derived.Test.YtjmojfbebcgjeaaDoorErr0
import Derived.Deep.Light
import Derived.Laws.StructEq
namespace Go.Proofs.YtjmojfbebcgjeaaDoor
open Go.RowKit
set_option maxRecDepth 100000
set_option linter.unusedVariables false
set_option linter.unusedSimpArgs false
theorem fs_mem {ps : List Pt} {b d : Int} {i : Nat} {m : Int} (h : (fsL ps b d)[i]? = some m) : CuOk ps ∧ ∃ j : Nat, m = (j : Int) ∧ j < ps.length ∧ fsP ps b d j = true := by
  by_cases hc : fsC ps b d = 0
  · have h2 : fsL ps b d = whereL ps.length (fsP ps b d) := by unfold fsL; rw [if_pos hc]
    rw [h2] at h
    obtain ⟨j, h3, h4, h5⟩ := whereL_mem (List.mem_of_getElem? h)
    refine ⟨?_, j, h3, h4, h5⟩
    unfold fsC at hc
    split at hc
    · exact CuOk.of (by assumption)
    · omega
  · have h2 : fsL ps b d = [] := by unfold fsL; rw [if_neg hc]
    rw [h2] at h
    cases h
theorem ouB (ps : List Pt) (wd mo X Y : Int) (a : Option Addr) (n c : Nat) (w : World) (h0 : btC ps wd mo = 0) (hX : btX ps wd mo = X) (hY : btY ps wd mo = Y) (hn : n ≤ 200) (hl : ps.length = n) (hr : Rd Pt.enc 2 w a ps) : Calls Tryd.prog 35 #[.slice a n c, .agg #[.int .i64 X, .int .i64 Y]] w fun e w' => ∃ (a' : Option Addr) (m c' : Nat), e = .returned (.tuple #[.slice a' m c', .int .i64 0]) ∧ 1 ≤ m ∧ (m : Int) ≤ mo ∧ Below w.heap.size w w' := by
  obtain ⟨h1, h2, h3, h4, h5⟩ := bt_good h0
  rw [hX] at h2 h3 h4 h5
  rw [hY] at h2 h3
  have hc : thCode ps X Y = 0 := thCode_ok h1 h2
  have hL : ouL ps X Y n = alN min (oS ps X (X + wd)) ps ps.length := by unfold ouL; rw [if_pos hc, h3, hl]
  refine (uOI ps a n c X Y w hn hl hr).mono fun e w' hd => ?_
  obtain ⟨a', m, c', he, hm, hr', hb⟩ := hd
  rw [hL] at hm
  unfold goN at h4 h5
  rw [hm] at h4 h5
  exact ⟨a', m, c', by rw [he, hc], h4, h5, hb⟩
theorem bt_wd {ps : List Pt} {wd mo X Y : Int} (h0 : btC ps wd mo = 0) (hX : btX ps wd mo = X) (hY : btY ps wd mo = Y) : (-2000 ≤ X ∧ X ≤ 20000) ∧ Y = X + wd ∧ X ≤ Y ∧ Y ≤ 20000 := by
  obtain ⟨h1, h2, h3, h4, h5⟩ := bt_good h0
  rw [hX] at h2 h3
  rw [hY] at h2 h3
  unfold thB at h2
  rw [Bool.and_eq_true, Bool.and_eq_true, inB_iff, inB_iff, decide_eq_true_eq] at h2
  exact ⟨h2.1, h3, h2.2.2, h2.2.1.2⟩
theorem lo_ok {b : Bool} {l : List Alt} (hb : b = true ↔ AOk l) (h : loC b l = 0) : AOk l ∧ ∃ i : Nat, loI b l = (i : Int) ∧ i < l.length ∧ ∀ (k : Nat) (x q : Alt), l[k]? = some x → l[i]? = some q → 0 ≤ x.fin → x.fin - x.beg ≤ q.fin - q.beg := by
  have h0 := h
  unfold loC at h
  split at h
  · rename_i h1
    split at h
    · omega
    · rename_i h2
      have hb2 := loK_bd l l.length
      have e : loI b l = loK l l.length := by unfold loI; rw [if_pos h0]
      refine ⟨hb.1 h1, (loK l l.length).toNat, by omega, by omega, fun k x q hx hq hf => ?_⟩
      have h4 := (loK_best (Nat.le_refl _) k x (List.getElem?_eq_some_iff.1 hx).1 hx hf).2
      rwa [duA_at hq] at h4
  · omega
set_option maxHeartbeats 4000000 in
set_option maxRecDepth 1000000 in
theorem part1 {c0 c1 c2 c3 c4 c5 c6 c7 c8 c9 c10 c11 c12 c13 c14 c15 c16 c17 c18 c23 c24 c25 c26 c27 c28 c29 c30 c31 c32 c33 c34 c35 c36 c37 c38 c39 c40 c41 c42 c43 c44 c45 c46 c47 c48 c49 c50 c51 c52 c53 c54 c55 c56 c57 c58 c59 c60 c61 c62 c63 c64 c65 c66 c67 c68 c69 c70 c71 c72 c73 c74 c75 c76 c77 c78 c79 c80 c81 c82 c83 c84 c85 c86 c87 c88 c89 c90 c91 c92 c93 c94 c95 c96 c97 c98 c99 c100 c101 c102 c103 c104 c105 c106 c107 c108 c109 c110 c111 c112 c113 c114 c115 c116 c117 c118 c119 c120 c121 c122 c123 c124 c125 c126 c127 c128 c129 c130 c131 c132 c133 c134 c135 c136 c137 c138 c139 c140 c141 c142 c143 c144 c145 c147 c148 c149 c150 c151 c152 c153 c154 c155 c156 c157 c158 c159 c160 c161 c162 c163 c164 c165 c166 c167 c168 c169 c170 c171 c172 c173 c174 c175 c176 c177 c178 c179 c180 c181 c182 c183 c184 c185 c186 c187 c188 c189 c190 c191 c192 c193 c194 c195 c196 c197 c198 c199 c200 c201 c202 c203 c204 c205 c206 c207 c208 c209 c210 c211 c212 c213 c214 c215 c216 c217 c218 c219 c220 c221 c222 c223 c224 c225 c226 c227 c228 c229 c230 c231 c232 c233 c234 c235 c236 c237 c238 c239 c240 c241 c242 c243 c244 c245 c246 c247 c248 c249 c250 c251 c252 c253 c254 c255 c256 c257 c258 c259 c260 c261 c262 c263 c264 c265 c266 : Value} {K : Act → World → Prop} {Q0 : Exit → Act → World → Prop} {W : World} {ts : List Pt} {wd mo BX BY : Int} {aT : Option Addr} {kT cT gP : Nat} {B5 : Bool} (h0 : B5 = true → btC ts wd mo = 0) (hBX : btX ts wd mo = BX) (hBY : btY ts wd mo = BY) (hk : kT ≤ 101) (hl : ts.length = kT) (hr : Rd Pt.enc 2 W aT ts) (hX : CAt W gP #[.int .i64 BX, .int .i64 BY] 56)
    (hK : ∀ (u2 u27 u28 u147 u148 u149 u150 u151 u152 u153 u154 u155 u156 u157 u158 u159 u160 u161 u162 u163 u164 u165 u166 u167 u168 u169 u170 u171 u172 u173 u174 : Value) (wx : World), Hid (Below W.heap.size W wx) → K ⟨#[c0, c1, u2, c3, c4, c5, c6, c7, c8, c9, c10, c11, c12, c13, c14, c15, c16, c17, c18, (.slice aT kT cT), (.int .i64 wd), (.int .i64 mo), (.pointer (some ⟨gP, 0, none⟩)), c23, c24, c25, c26, u27, u28, c29, c30, c31, c32, c33, c34, c35, c36, c37, c38, c39, c40, c41, c42, c43, c44, c45, c46, c47, c48, c49, c50, c51, c52, c53, c54, c55, c56, c57, c58, c59, c60, c61, c62, c63, c64, c65, c66, c67, c68, c69, c70, c71, c72, c73, c74, c75, c76, c77, c78, c79, c80, c81, c82, c83, c84, c85, c86, c87, c88, c89, c90, c91, c92, c93, c94, c95, c96, c97, c98, c99, c100, c101, c102, c103, c104, c105, c106, c107, c108, c109, c110, c111, c112, c113, c114, c115, c116, c117, c118, c119, c120, c121, c122, c123, c124, c125, c126, c127, c128, c129, c130, c131, c132, c133, c134, c135, c136, c137, c138, c139, c140, c141, c142, c143, c144, c145, (.bool B5), u147, u148, u149, u150, u151, u152, u153, u154, u155, u156, u157, u158, u159, u160, u161, u162, u163, u164, u165, u166, u167, u168, u169, u170, u171, u172, u173, u174, c175, c176, c177, c178, c179, c180, c181, c182, c183, c184, c185, c186, c187, c188, c189, c190, c191, c192, c193, c194, c195, c196, c197, c198, c199, c200, c201, c202, c203, c204, c205, c206, c207, c208, c209, c210, c211, c212, c213, c214, c215, c216, c217, c218, c219, c220, c221, c222, c223, c224, c225, c226, c227, c228, c229, c230, c231, c232, c233, c234, c235, c236, c237, c238, c239, c240, c241, c242, c243, c244, c245, c246, c247, c248, c249, c250, c251, c252, c253, c254, c255, c256, c257, c258, c259, c260, c261, c262, c263, c264, c265, c266], []⟩ wx) :
    Code.wp Tryd.prog cdI146 (Exit.then K Q0) ⟨#[c0, c1, c2, c3, c4, c5, c6, c7, c8, c9, c10, c11, c12, c13, c14, c15, c16, c17, c18, (.slice aT kT cT), (.int .i64 wd), (.int .i64 mo), (.pointer (some ⟨gP, 0, none⟩)), c23, c24, c25, c26, c27, c28, c29, c30, c31, c32, c33, c34, c35, c36, c37, c38, c39, c40, c41, c42, c43, c44, c45, c46, c47, c48, c49, c50, c51, c52, c53, c54, c55, c56, c57, c58, c59, c60, c61, c62, c63, c64, c65, c66, c67, c68, c69, c70, c71, c72, c73, c74, c75, c76, c77, c78, c79, c80, c81, c82, c83, c84, c85, c86, c87, c88, c89, c90, c91, c92, c93, c94, c95, c96, c97, c98, c99, c100, c101, c102, c103, c104, c105, c106, c107, c108, c109, c110, c111, c112, c113, c114, c115, c116, c117, c118, c119, c120, c121, c122, c123, c124, c125, c126, c127, c128, c129, c130, c131, c132, c133, c134, c135, c136, c137, c138, c139, c140, c141, c142, c143, c144, c145, (.bool B5), c147, c148, c149, c150, c151, c152, c153, c154, c155, c156, c157, c158, c159, c160, c161, c162, c163, c164, c165, c166, c167, c168, c169, c170, c171, c172, c173, c174, c175, c176, c177, c178, c179, c180, c181, c182, c183, c184, c185, c186, c187, c188, c189, c190, c191, c192, c193, c194, c195, c196, c197, c198, c199, c200, c201, c202, c203, c204, c205, c206, c207, c208, c209, c210, c211, c212, c213, c214, c215, c216, c217, c218, c219, c220, c221, c222, c223, c224, c225, c226, c227, c228, c229, c230, c231, c232, c233, c234, c235, c236, c237, c238, c239, c240, c241, c242, c243, c244, c245, c246, c247, c248, c249, c250, c251, c252, c253, c254, c255, c256, c257, c258, c259, c260, c261, c262, c263, c264, c265, c266], []⟩ W := by
  have HK := Lib.hid hK
  clear hK
  conv => arg 2; whnf
  cases B5 with
  | false =>
    go_wp2_with fail
    exact HK.out _ _ _ _ _ _ _ _ _ _ _ _ _ _ _ _ _ _ _ _ _ _ _ _ _ _ _ _ _ _ _ _ (Lib.hid (Below.refl _ _))
  | true =>
    have HQ0 := Lib.hid (h0 rfl)
    obtain ⟨q1, q2, q3⟩ := bt_wd HQ0.out hBX hBY
    have HBX := Lib.hid hBX
    have HBY := Lib.hid hBY
    have HLT := Lib.hid hl
    have HRT := Lib.hid hr
    have ix : IntKind.i64.wrap (BY - BX) = wd := by rw [IntWalk.i64_in _ (by omega)]; omega
    have dw : (wd != wd) = false := by simp
    have y0 : W.cell? ⟨gP, 0, none⟩ = some (.int .i64 BX) := hX.cell 0
    have y1 : W.cell? ⟨gP, 1, none⟩ = some (.int .i64 BY) := hX.cell 1
    have HXP := Lib.hid hX
    clear q2 h0 hBX hBY hl hr hX
    go_wp2_with fail
    refine (ouB ts wd mo BX BY aT kT cT _ HQ0.out HBX.out HBY.out (by omega) HLT.out HRT.out).mono ?_
    rintro e wO ⟨aO, mO, cO, rfl, hm1, hm2, hbO⟩
    have z0 : wO.cell? ⟨gP, 0, none⟩ = some (.int .i64 BX) := (HXP.out.below hbO).cell 0
    have z1 : wO.cell? ⟨gP, 1, none⟩ = some (.int .i64 BY) := (HXP.out.below hbO).cell 1
    have m1 : ((mO : Int) == 0) = false := by rw [beq_eq_false_iff_ne]; omega
    have m1n : (mO == 0) = false := by rw [beq_eq_false_iff_ne]; omega
    have m2 : decide (mo < (mO : Int)) = false := decide_eq_false (by omega)
    have HBO := Lib.hid hbO
    clear hbO y0 y1
    go_wp2_with fail
    exact HK.out _ _ _ _ _ _ _ _ _ _ _ _ _ _ _ _ _ _ _ _ _ _ _ _ _ _ _ _ _ _ _ wO (HBO)

set_option maxHeartbeats 4000000 in
set_option maxRecDepth 1000000 in
theorem part2 {c0 c1 c2 c3 c4 c5 c6 c7 c8 c9 c11 c12 c14 c15 c16 c17 c18 c19 c20 c21 c22 c23 c24 c25 c26 c27 c28 c29 c30 c31 c32 c33 c34 c35 c36 c37 c38 c39 c40 c41 c42 c43 c44 c45 c46 c47 c48 c49 c50 c51 c52 c53 c54 c55 c56 c57 c58 c59 c60 c61 c62 c63 c64 c65 c66 c67 c68 c69 c70 c71 c72 c73 c74 c75 c76 c77 c78 c79 c80 c81 c82 c83 c84 c85 c86 c87 c88 c89 c90 c91 c92 c93 c94 c95 c96 c97 c98 c99 c100 c101 c102 c103 c104 c105 c106 c107 c108 c109 c110 c111 c112 c113 c114 c115 c116 c117 c118 c119 c120 c121 c122 c123 c124 c125 c126 c127 c128 c129 c130 c131 c132 c133 c134 c135 c136 c137 c138 c139 c140 c141 c142 c143 c144 c145 c146 c147 c148 c149 c150 c151 c152 c153 c154 c155 c156 c157 c158 c159 c160 c161 c162 c163 c164 c165 c166 c167 c168 c169 c170 c171 c172 c173 c174 c175 c177 c178 c179 c180 c181 c182 c183 c184 c185 c186 c187 c188 c189 c190 c191 c192 c193 c194 c195 c196 c197 c198 c199 c200 c201 c202 c203 c204 c205 c206 c207 c208 c209 c210 c211 c212 c213 c214 c215 c216 c217 c218 c219 c220 c221 c222 c223 c224 c225 c226 c227 c228 c229 c230 c231 c232 c233 c234 c235 c236 c237 c238 c239 c240 c241 c242 c243 c244 c245 c246 c247 c248 c249 c250 c251 c252 c253 c254 c255 c256 c257 c258 c259 c260 c261 c262 c263 c264 c265 c266 : Value} {K : Act → World → Prop} {Q0 : Exit → Act → World → Prop} {W : World} {als : List Alt} {AB : Bool} {LI : Int} {aA : Option Addr} {kA cA : Nat} {B6 : Bool} (h0 : B6 = true → loC AB als = 0) (hAB : AB = true ↔ AOk als) (hLI : loI AB als = LI) (hk : kA ≤ 51) (hl : als.length = kA) (hr : Rd Alt.enc 3 W aA als)
    (hK : ∀ (u2 u29 u177 u178 u179 u180 u181 u182 u183 u184 u185 u186 u187 u188 u189 u190 u191 u192 u193 u194 u195 u196 u197 u198 u199 u200 u201 u202 u203 u204 u205 u206 u207 u208 u209 u210 u211 u212 u213 : Value) (wx : World), Hid (Below W.heap.size W wx) → K ⟨#[c0, c1, u2, c3, c4, c5, c6, c7, c8, c9, (.slice aA kA cA), c11, c12, (.int .i64 LI), c14, c15, c16, c17, c18, c19, c20, c21, c22, c23, c24, c25, c26, c27, c28, u29, c30, c31, c32, c33, c34, c35, c36, c37, c38, c39, c40, c41, c42, c43, c44, c45, c46, c47, c48, c49, c50, c51, c52, c53, c54, c55, c56, c57, c58, c59, c60, c61, c62, c63, c64, c65, c66, c67, c68, c69, c70, c71, c72, c73, c74, c75, c76, c77, c78, c79, c80, c81, c82, c83, c84, c85, c86, c87, c88, c89, c90, c91, c92, c93, c94, c95, c96, c97, c98, c99, c100, c101, c102, c103, c104, c105, c106, c107, c108, c109, c110, c111, c112, c113, c114, c115, c116, c117, c118, c119, c120, c121, c122, c123, c124, c125, c126, c127, c128, c129, c130, c131, c132, c133, c134, c135, c136, c137, c138, c139, c140, c141, c142, c143, c144, c145, c146, c147, c148, c149, c150, c151, c152, c153, c154, c155, c156, c157, c158, c159, c160, c161, c162, c163, c164, c165, c166, c167, c168, c169, c170, c171, c172, c173, c174, c175, (.bool B6), u177, u178, u179, u180, u181, u182, u183, u184, u185, u186, u187, u188, u189, u190, u191, u192, u193, u194, u195, u196, u197, u198, u199, u200, u201, u202, u203, u204, u205, u206, u207, u208, u209, u210, u211, u212, u213, c214, c215, c216, c217, c218, c219, c220, c221, c222, c223, c224, c225, c226, c227, c228, c229, c230, c231, c232, c233, c234, c235, c236, c237, c238, c239, c240, c241, c242, c243, c244, c245, c246, c247, c248, c249, c250, c251, c252, c253, c254, c255, c256, c257, c258, c259, c260, c261, c262, c263, c264, c265, c266], []⟩ wx) :
    Code.wp Tryd.prog cdI176 (Exit.then K Q0) ⟨#[c0, c1, c2, c3, c4, c5, c6, c7, c8, c9, (.slice aA kA cA), c11, c12, (.int .i64 LI), c14, c15, c16, c17, c18, c19, c20, c21, c22, c23, c24, c25, c26, c27, c28, c29, c30, c31, c32, c33, c34, c35, c36, c37, c38, c39, c40, c41, c42, c43, c44, c45, c46, c47, c48, c49, c50, c51, c52, c53, c54, c55, c56, c57, c58, c59, c60, c61, c62, c63, c64, c65, c66, c67, c68, c69, c70, c71, c72, c73, c74, c75, c76, c77, c78, c79, c80, c81, c82, c83, c84, c85, c86, c87, c88, c89, c90, c91, c92, c93, c94, c95, c96, c97, c98, c99, c100, c101, c102, c103, c104, c105, c106, c107, c108, c109, c110, c111, c112, c113, c114, c115, c116, c117, c118, c119, c120, c121, c122, c123, c124, c125, c126, c127, c128, c129, c130, c131, c132, c133, c134, c135, c136, c137, c138, c139, c140, c141, c142, c143, c144, c145, c146, c147, c148, c149, c150, c151, c152, c153, c154, c155, c156, c157, c158, c159, c160, c161, c162, c163, c164, c165, c166, c167, c168, c169, c170, c171, c172, c173, c174, c175, (.bool B6), c177, c178, c179, c180, c181, c182, c183, c184, c185, c186, c187, c188, c189, c190, c191, c192, c193, c194, c195, c196, c197, c198, c199, c200, c201, c202, c203, c204, c205, c206, c207, c208, c209, c210, c211, c212, c213, c214, c215, c216, c217, c218, c219, c220, c221, c222, c223, c224, c225, c226, c227, c228, c229, c230, c231, c232, c233, c234, c235, c236, c237, c238, c239, c240, c241, c242, c243, c244, c245, c246, c247, c248, c249, c250, c251, c252, c253, c254, c255, c256, c257, c258, c259, c260, c261, c262, c263, c264, c265, c266], []⟩ W := by
  have HK := Lib.hid hK
  clear hK
  conv => arg 2; whnf
  cases B6 with
  | false =>
    go_wp2_with fail
    exact HK.out _ _ _ _ _ _ _ _ _ _ _ _ _ _ _ _ _ _ _ _ _ _ _ _ _ _ _ _ _ _ _ _ _ _ _ _ _ _ _ _ (Lib.hid (Below.refl _ _))
  | true =>
    obtain ⟨hok, li, e1, hli, hbest⟩ := lo_ok hAB (h0 rfl)
    obtain rfl : LI = (li : Int) := hLI.symm.trans e1
    have HOK := Lib.hid hok
    have HBE := Lib.hid hbest
    rw [hl] at hli
    obtain ⟨q, hq⟩ : ∃ z, als[li]? = some z := ⟨_, List.getElem?_eq_getElem (by rw [hl]; exact hli)⟩
    have hqb := hok.bd li q hq
    have HQ := Lib.hid hq
    have i1 : (0 : Int) ≤ (li : Nat) := by omega
    have i2 : ((li : Nat) : Int) < kA := by omega
    obtain ⟨bA, oA, hab, hCA⟩ := hr.addr (by rw [hl]; omega)
    subst hab
    have HCA := Lib.hid hCA
    have HLA := Lib.hid hl
    clear h0 hAB hLI e1 hok hbest hq hCA hl hr
    go_wp2_with fail
    go_loopw [29] (fun iv wr => ∃ k : Nat, k ≤ kA ∧ iv = .int .i64 k ∧ Hid (Below W.heap.size W wr)) (fun iv _ => kA - (intOf iv).toNat)
    case atStart => exact ⟨0, Nat.zero_le _, rfl, Lib.hid (Below.refl _ _)⟩
    case round =>
    obtain ⟨k, hkk, rfl, HBk⟩ := hrel
    obtain ⟨wA, hwA⟩ : ∃ wx, wx = wr := ⟨_, rfl⟩
    subst hwA
    by_cases hlt : k < kA
    · obtain ⟨x, hx⟩ : ∃ z, als[k]? = some z := ⟨_, List.getElem?_eq_getElem (by rw [HLA.out]; exact hlt)⟩
      have hxb := HOK.out.bd k x hx
      have x0 : wA.cell? ⟨bA, oA + k * 3, none⟩ = some (.int .i64 x.beg) := HCA.out k x hx wA HBk.out 0 _ rfl
      have x1 : wA.cell? ⟨bA, oA + k * 3 + 1, none⟩ = some (.int .i64 x.fin) := HCA.out k x hx wA HBk.out 1 _ rfl
      have q0 : wA.cell? ⟨bA, oA + li * 3, none⟩ = some (.int .i64 q.beg) := HCA.out li q HQ.out wA HBk.out 0 _ rfl
      have q1 : wA.cell? ⟨bA, oA + li * 3 + 1, none⟩ = some (.int .i64 q.fin) := HCA.out li q HQ.out wA HBk.out 1 _ rfl
      have j1 : (0 : Int) ≤ (k : Nat) := by omega
      have j2 : ((k : Nat) : Int) < kA := by omega
      have jx : IntKind.i64.wrap (x.fin - x.beg) = x.fin - x.beg := IntWalk.i64_in _ (by omega)
      have jq : IntKind.i64.wrap (q.fin - q.beg) = q.fin - q.beg := IntWalk.i64_in _ (by omega)
      by_cases hf : 0 ≤ x.fin
      · have hle := HBE.out k x q hx HQ.out hf
        have df : decide (0 ≤ x.fin) = true := decide_eq_true hf
        have dg : decide (q.fin - q.beg < x.fin - x.beg) = false := decide_eq_false (by omega)
        clear hf hle
        clear hx
        go_wp2_with fail
        refine wp_region_quiet_lit (by kernel_rfl) (lexR25_of (by kernel_rfl)) ?_
        repeat (go_big_quiet_step (fail))
        refine wpQuiet_nil ?_
        intro _ hw'
        obtain ⟨nq, hw''⟩ := hw'
        subst hw''
        have hbq := below_drewN (Below.refl wA.heap.size wA) nq
        have HBD := Lib.hid (HBk.out.trans (hbq.mono HBk.out.size))
        clear hbq x0 x1 q0 q1 jx jq
        go_wp2_with fail
        go_roundw
        case rel => exact ⟨k + 1, by omega, by go_num, HBD⟩
        case measure => simp [intOf] <;> omega
      · have df : decide (0 ≤ x.fin) = false := decide_eq_false hf
        clear hf
        clear hx
        go_wp2_with fail
        refine wp_region_quiet_lit (by kernel_rfl) (lexR25_of (by kernel_rfl)) ?_
        repeat (go_big_quiet_step (fail))
        refine wpQuiet_nil ?_
        intro _ hw'
        obtain ⟨nq, hw''⟩ := hw'
        subst hw''
        have hbq := below_drewN (Below.refl wA.heap.size wA) nq
        have HBD := Lib.hid (HBk.out.trans (hbq.mono HBk.out.size))
        clear hbq x0 x1 q0 q1 jx jq
        go_wp2_with fail
        go_roundw
        case rel => exact ⟨k + 1, by omega, by go_num, HBD⟩
        case measure => simp [intOf] <;> omega
    · go_wp2_with fail
      exact HK.out _ _ _ _ _ _ _ _ _ _ _ _ _ _ _ _ _ _ _ _ _ _ _ _ _ _ _ _ _ _ _ _ _ _ _ _ _ _ _ wA (HBk)

set_option maxHeartbeats 4000000 in
set_option maxRecDepth 1000000 in
theorem part3 {c0 c1 c2 c6 c7 c9 c10 c11 c12 c13 c14 c15 c16 c17 c18 c19 c20 c21 c22 c23 c24 c25 c26 c27 c28 c29 c31 c32 c33 c34 c35 c36 c37 c38 c39 c40 c41 c42 c43 c44 c45 c46 c47 c48 c49 c50 c51 c52 c53 c54 c55 c56 c57 c58 c59 c60 c61 c62 c63 c64 c65 c66 c67 c68 c69 c70 c71 c72 c73 c74 c75 c76 c77 c78 c79 c80 c81 c82 c83 c84 c85 c86 c87 c88 c89 c90 c91 c92 c93 c94 c95 c96 c97 c98 c99 c100 c101 c102 c103 c104 c105 c106 c107 c108 c109 c110 c111 c112 c113 c114 c115 c116 c117 c118 c119 c120 c121 c122 c123 c124 c125 c126 c127 c128 c129 c130 c131 c132 c133 c134 c135 c136 c137 c138 c139 c140 c141 c142 c143 c144 c145 c146 c147 c148 c149 c150 c151 c152 c153 c154 c155 c156 c157 c158 c159 c160 c161 c162 c163 c164 c165 c166 c167 c168 c169 c170 c171 c172 c173 c174 c175 c176 c177 c178 c179 c180 c181 c182 c183 c184 c185 c186 c187 c188 c189 c190 c191 c192 c193 c194 c195 c196 c197 c198 c199 c200 c201 c202 c203 c204 c205 c206 c207 c208 c209 c210 c211 c212 c213 c214 c215 c216 c217 c218 c219 c220 c221 c222 c223 c224 c225 c226 c227 c228 c229 c230 c231 c232 c233 c234 c235 c236 c237 c238 c239 c240 c241 c242 c243 c244 c245 c246 c247 c248 c249 c250 c251 c252 c253 c254 c255 c256 c257 c258 c259 c260 c261 c262 c263 c264 c265 c266 : Value} {K : Act → World → Prop} {Q0 : Exit → Act → World → Prop} {W : World} {ps : List Pt} {FL : List Int} {pb pd : Int} {aL aM : Option Addr} {kL cL kX cM : Nat} (hFM : ∀ (i : Nat) (m : Int), FL[i]? = some m → CuOk ps ∧ ∃ j : Nat, m = (j : Int) ∧ j < kL ∧ fsP ps pb pd j = true) (hkx : kX ≤ 101) (hkl : kL ≤ 101) (hlX : FL.length = kX) (hlL : ps.length = kL) (hrM : Rd eI 1 W aM FL) (hrL : Rd Pt.enc 2 W aL ps)
    (hK : ∀ (u2 u30 u31 u32 u214 u215 u216 u217 u218 u219 u220 u221 u222 u223 u224 u225 u226 u227 u228 u229 u230 u231 u232 u233 u234 u235 u236 u237 u238 u239 u240 u241 u242 u243 u244 u245 u246 u247 u248 u249 u250 u251 u252 u253 u254 u255 u256 u257 u258 u259 u260 u261 u262 u263 u264 u265 u266 : Value) (wx : World), Hid (Below W.heap.size W wx) → K ⟨#[c0, c1, u2, (.slice aL kL cL), (.int .i64 pb), (.int .i64 pd), c6, c7, (.slice aM kX cM), c9, c10, c11, c12, c13, c14, c15, c16, c17, c18, c19, c20, c21, c22, c23, c24, c25, c26, c27, c28, c29, u30, u31, u32, c33, c34, c35, c36, c37, c38, c39, c40, c41, c42, c43, c44, c45, c46, c47, c48, c49, c50, c51, c52, c53, c54, c55, c56, c57, c58, c59, c60, c61, c62, c63, c64, c65, c66, c67, c68, c69, c70, c71, c72, c73, c74, c75, c76, c77, c78, c79, c80, c81, c82, c83, c84, c85, c86, c87, c88, c89, c90, c91, c92, c93, c94, c95, c96, c97, c98, c99, c100, c101, c102, c103, c104, c105, c106, c107, c108, c109, c110, c111, c112, c113, c114, c115, c116, c117, c118, c119, c120, c121, c122, c123, c124, c125, c126, c127, c128, c129, c130, c131, c132, c133, c134, c135, c136, c137, c138, c139, c140, c141, c142, c143, c144, c145, c146, c147, c148, c149, c150, c151, c152, c153, c154, c155, c156, c157, c158, c159, c160, c161, c162, c163, c164, c165, c166, c167, c168, c169, c170, c171, c172, c173, c174, c175, c176, c177, c178, c179, c180, c181, c182, c183, c184, c185, c186, c187, c188, c189, c190, c191, c192, c193, c194, c195, c196, c197, c198, c199, c200, c201, c202, c203, c204, c205, c206, c207, c208, c209, c210, c211, c212, c213, u214, u215, u216, u217, u218, u219, u220, u221, u222, u223, u224, u225, u226, u227, u228, u229, u230, u231, u232, u233, u234, u235, u236, u237, u238, u239, u240, u241, u242, u243, u244, u245, u246, u247, u248, u249, u250, u251, u252, u253, u254, u255, u256, u257, u258, u259, u260, u261, u262, u263, u264, u265, u266], []⟩ wx) :
    Code.wp Tryd.prog cdB2 (Exit.then K Q0) ⟨#[c0, c1, c2, (.slice aL kL cL), (.int .i64 pb), (.int .i64 pd), c6, c7, (.slice aM kX cM), c9, c10, c11, c12, c13, c14, c15, c16, c17, c18, c19, c20, c21, c22, c23, c24, c25, c26, c27, c28, c29, (.int .i64 0), c31, c32, c33, c34, c35, c36, c37, c38, c39, c40, c41, c42, c43, c44, c45, c46, c47, c48, c49, c50, c51, c52, c53, c54, c55, c56, c57, c58, c59, c60, c61, c62, c63, c64, c65, c66, c67, c68, c69, c70, c71, c72, c73, c74, c75, c76, c77, c78, c79, c80, c81, c82, c83, c84, c85, c86, c87, c88, c89, c90, c91, c92, c93, c94, c95, c96, c97, c98, c99, c100, c101, c102, c103, c104, c105, c106, c107, c108, c109, c110, c111, c112, c113, c114, c115, c116, c117, c118, c119, c120, c121, c122, c123, c124, c125, c126, c127, c128, c129, c130, c131, c132, c133, c134, c135, c136, c137, c138, c139, c140, c141, c142, c143, c144, c145, c146, c147, c148, c149, c150, c151, c152, c153, c154, c155, c156, c157, c158, c159, c160, c161, c162, c163, c164, c165, c166, c167, c168, c169, c170, c171, c172, c173, c174, c175, c176, c177, c178, c179, c180, c181, c182, c183, c184, c185, c186, c187, c188, c189, c190, c191, c192, c193, c194, c195, c196, c197, c198, c199, c200, c201, c202, c203, c204, c205, c206, c207, c208, c209, c210, c211, c212, c213, c214, c215, c216, c217, c218, c219, c220, c221, c222, c223, c224, c225, c226, c227, c228, c229, c230, c231, c232, c233, c234, c235, c236, c237, c238, c239, c240, c241, c242, c243, c244, c245, c246, c247, c248, c249, c250, c251, c252, c253, c254, c255, c256, c257, c258, c259, c260, c261, c262, c263, c264, c265, c266], []⟩ W := by
  have HK := Lib.hid hK
  clear hK
  conv => arg 2; whnf
  have HFM := Lib.hid hFM
  have HLX := Lib.hid hlX
  have HLL := Lib.hid hlL
  have HRM := Lib.hid hrM
  have HRL := Lib.hid hrL
  clear hFM hlX hlL hrM hrL
  go_wp2_with fail
  go_loopw [30, 31, 32] (fun iv s31 s32 wr => ∃ k : Nat, s31 = s31 ∧ s32 = s32 ∧ k ≤ kX ∧ iv = .int .i64 k ∧ Hid (Below W.heap.size W wr)) (fun iv _ _ _ => kX - (intOf iv).toNat)
  case atStart => exact ⟨0, by trivial, by trivial, Nat.zero_le _, rfl, Lib.hid (Below.refl _ _)⟩
  case round =>
  obtain ⟨k, -, -, hkk, rfl, HBk⟩ := hrel
  obtain ⟨wA, hwA⟩ : ∃ wx, wx = wr := ⟨_, rfl⟩
  subst hwA
  by_cases hlt : k < kX
  · obtain ⟨m, hm⟩ : ∃ z, FL[k]? = some z := ⟨_, List.getElem?_eq_getElem (by rw [HLX.out]; exact hlt)⟩
    obtain ⟨hcu, i0, hmi, hi0, hfs⟩ := HFM.out k m hm
    have HCU := Lib.hid hcu
    obtain ⟨x, hx⟩ : ∃ z, ps[i0]? = some z := ⟨_, List.getElem?_eq_getElem (by rw [HLL.out]; exact hi0)⟩
    have hxb := hcu.ok i0 x hx
    have HP : Hid ((ps.take i0).any (fsB x pb pd) = true) := Lib.hid ((fsP_at hx).symm.trans hfs)
    have HXK := Lib.hid hx
    obtain ⟨bM, oM, habM, hCM⟩ := HRM.out.addr1 (f := fun x => Value.int .i64 x) (by rw [HLX.out]; omega) (fun _ => rfl)
    obtain ⟨bL, oL, habL, hCL⟩ := HRL.out.addr (by rw [HLL.out]; omega)
    have HCM := Lib.hid hCM
    have HCL := Lib.hid hCL
    have HMK : Hid (FL[k]? = some (i0 : Int)) := Lib.hid (by rw [hm, hmi])
    have i1 : (0 : Int) ≤ (k : Nat) := by omega
    have i2 : ((k : Nat) : Int) < kX := by omega
    have HAM := Lib.hid habM
    have HAL := Lib.hid habL
    clear hm hmi hfs hx hcu hCM hCL habM habL
    rw [HAM.out, HAL.out]
    have m0 : wA.cell? ⟨bM, oM + k, none⟩ = some (.int .i64 (i0 : Int)) := HCM.out k _ HMK.out wA HBk.out
    go_wp2_with fail
    clear m0
    go_loopw [31, 32] (fun fv jv wr => ∃ j : Nat, j ≤ i0 ∧ jv = .int .i64 j ∧ fv = .bool ((ps.take j).any (fsB x pb pd)) ∧ Hid (Below W.heap.size W wr)) (fun _ jv _ => i0 - (intOf jv).toNat)
    case atStart => exact ⟨0, Nat.zero_le _, rfl, rfl, HBk⟩
    case round =>
    obtain ⟨j, hj, rfl, rfl, HBj⟩ := hrel
    obtain ⟨wC, hwC⟩ : ∃ wx, wx = wr := ⟨_, rfl⟩
    subst hwC
    have m0 : wC.cell? ⟨bM, oM + k, none⟩ = some (.int .i64 (i0 : Int)) := HCM.out k _ HMK.out wC HBj.out
    by_cases hjt : j < i0
    · obtain ⟨p, hp⟩ : ∃ z, ps[j]? = some z := ⟨_, List.getElem?_eq_getElem (by rw [HLL.out]; omega)⟩
      have hpb := HCU.out.ok j p hp
      have c0 : wC.cell? ⟨bL, oL + j * 2, none⟩ = some (.int .i64 p.time) := HCL.out j p hp wC HBj.out 0 _ rfl
      have c1 : wC.cell? ⟨bL, oL + j * 2 + 1, none⟩ = some (.int .i64 p.mag) := HCL.out j p hp wC HBj.out 1 _ rfl
      have f0 : wC.cell? ⟨bL, oL + i0 * 2, none⟩ = some (.int .i64 x.time) := HCL.out i0 x HXK.out wC HBj.out 0 _ rfl
      have f1 : wC.cell? ⟨bL, oL + i0 * 2 + 1, none⟩ = some (.int .i64 x.mag) := HCL.out i0 x HXK.out wC HBj.out 1 _ rfl
      have j1 : (0 : Int) ≤ (j : Nat) := by omega
      have j2 : ((j : Nat) : Int) < kL := by omega
      have j3 : (0 : Int) ≤ (i0 : Nat) := by omega
      have j4 : ((i0 : Nat) : Int) < kL := by omega
      have j5 : decide ((j : Int) < (i0 : Int)) = true := decide_eq_true (by omega)
      obtain ⟨DT, hDT⟩ : ∃ q, x.time - p.time = q := ⟨_, rfl⟩
      obtain ⟨DM, hDM⟩ : ∃ q, p.mag - x.mag = q := ⟨_, rfl⟩
      have iT : IntKind.i64.wrap (x.time - p.time) = DT := by rw [IntWalk.i64_in _ (by omega), hDT]
      have iM : IntKind.i64.wrap (p.mag - x.mag) = DM := by rw [IntWalk.i64_in _ (by omega), hDM]
      have hFB : fsB x pb pd p = (decide (DT ≤ pd) && decide (pb ≤ DM)) := by unfold fsB; rw [hDT, hDM]
      clear hDT hDM
      have hsn := any_sn (f := fsB x pb pd) hp
      obtain ⟨FV, hFV⟩ : ∃ q, (ps.take j).any (fsB x pb pd) = q := ⟨_, rfl⟩
      rw [hFV] at hsn ⊢
      clear hp hFV
      cases FV with
      | true =>
        have HNX : Hid ((ps.take (j + 1)).any (fsB x pb pd) = true) := Lib.hid (by rw [hsn]; rfl)
        clear hsn hFB
        go_wp2_with fail
        refine wp_region_quiet_lit (by kernel_rfl) (lexR34_of (by kernel_rfl)) ?_
        repeat (go_big_quiet_step (fail))
        refine wpQuiet_nil ?_
        intro _ hw'
        obtain ⟨nq, hw''⟩ := hw'
        subst hw''
        have hbq := below_drewN (Below.refl wC.heap.size wC) nq
        have HBD := Lib.hid (HBj.out.trans (hbq.mono HBj.out.size))
        clear hbq
        go_wp2_with fail
        go_roundw
        case rel => exact ⟨j + 1, by omega, by go_num, by rw [HNX.out], HBD⟩
        case measure => simp [intOf] <;> omega
      | false =>
        by_cases t1 : DT ≤ pd
        · have e8 : decide (DT ≤ pd) = true := decide_eq_true t1
          by_cases t2 : pb ≤ DM
          · have e9 : decide (pb ≤ DM) = true := decide_eq_true t2
            have HNX : Hid ((ps.take (j + 1)).any (fsB x pb pd) = true) := Lib.hid (by rw [hsn, hFB, e8, e9]; rfl)
            clear hsn hFB t1 t2
            go_wp2_with fail
            refine wp_region_quiet_lit (by kernel_rfl) (lexR34_of (by kernel_rfl)) ?_
            repeat (go_big_quiet_step (fail))
            refine wpQuiet_nil ?_
            intro _ hw'
            obtain ⟨nq, hw''⟩ := hw'
            subst hw''
            have hbq := below_drewN (Below.refl wC.heap.size wC) nq
            have HBD := Lib.hid (HBj.out.trans (hbq.mono HBj.out.size))
            clear hbq
            go_wp2_with fail
            go_roundw
            case rel => exact ⟨j + 1, by omega, by go_num, by rw [HNX.out], HBD⟩
            case measure => simp [intOf] <;> omega
          have e9 : decide (pb ≤ DM) = false := decide_eq_false t2
          have HNX : Hid ((ps.take (j + 1)).any (fsB x pb pd) = false) := Lib.hid (by rw [hsn, hFB, e8, e9]; rfl)
          clear hsn hFB t1 t2
          go_wp2_with fail
          refine wp_region_quiet_lit (by kernel_rfl) (lexR34_of (by kernel_rfl)) ?_
          repeat (go_big_quiet_step (fail))
          refine wpQuiet_nil ?_
          intro _ hw'
          obtain ⟨nq, hw''⟩ := hw'
          subst hw''
          have hbq := below_drewN (Below.refl wC.heap.size wC) nq
          have HBD := Lib.hid (HBj.out.trans (hbq.mono HBj.out.size))
          clear hbq
          go_wp2_with fail
          go_roundw
          case rel => exact ⟨j + 1, by omega, by go_num, by rw [HNX.out], HBD⟩
          case measure => simp [intOf] <;> omega
        have e8 : decide (DT ≤ pd) = false := decide_eq_false t1
        have HNX : Hid ((ps.take (j + 1)).any (fsB x pb pd) = false) := Lib.hid (by rw [hsn, hFB, e8]; rfl)
        clear hsn hFB t1
        go_wp2_with fail
        refine wp_region_quiet_lit (by kernel_rfl) (lexR34_of (by kernel_rfl)) ?_
        repeat (go_big_quiet_step (fail))
        refine wpQuiet_nil ?_
        intro _ hw'
        obtain ⟨nq, hw''⟩ := hw'
        subst hw''
        have hbq := below_drewN (Below.refl wC.heap.size wC) nq
        have HBD := Lib.hid (HBj.out.trans (hbq.mono HBj.out.size))
        clear hbq
        go_wp2_with fail
        go_roundw
        case rel => exact ⟨j + 1, by omega, by go_num, by rw [HNX.out], HBD⟩
        case measure => simp [intOf] <;> omega
    have hji : j = i0 := by omega
    have j5 : decide ((j : Int) < (i0 : Int)) = false := decide_eq_false (by omega)
    have HPJ : Hid ((ps.take j).any (fsB x pb pd) = true) := Lib.hid (by rw [hji]; exact HP.out)
    rw [HPJ.out]
    clear hji
    go_wp2_with fail
    go_roundw
    case rel => exact ⟨k + 1, by trivial, by trivial, by omega, by go_num, HBj⟩
    case measure => simp [intOf] <;> omega
  · go_wp2_with fail
    exact HK.out _ _ _ _ _ _ _ _ _ _ _ _ _ _ _ _ _ _ _ _ _ _ _ _ _ _ _ _ _ _ _ _ _ _ _ _ _ _ _ _ _ _ _ _ _ _ _ _ _ _ _ _ _ _ _ _ _ wA (HBk)
end Go.Proofs.YtjmojfbebcgjeaaDoor
