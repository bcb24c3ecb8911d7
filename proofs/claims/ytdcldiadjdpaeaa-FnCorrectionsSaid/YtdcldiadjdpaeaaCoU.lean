/-
  Parts of the law FnCorrections: the medians' way back, the end.
-/
import Derived.Test.YtdcldiadjdpaeaaCoT
import Derived.Test.YtdcldiadjdpaeaaCoR
import Derived.Test.YtdcldiadjdpaeaaCo3
import Derived.Test.YtdcldiadjdpaeaaCoD
import Derived.Deep.CutRange
import Derived.Deep.Light
namespace Go.Proofs.Ytdcldiadjdpaeaa
open Go.RowKit
set_option maxRecDepth 100000
set_option linter.unusedVariables false
set_option linter.unusedSimpArgs false
theorem one_of {LD : List Com} (h : LD.length = 1) : ∃ y, LD = [y] := List.length_eq_one_iff.1 h
noncomputable def cdI166 : Code := ((Try.f3.body.bind (findC 166)).getD .skip)
noncomputable def cdI232 : Code := ((Try.f3.body.bind (findC 232)).getD .skip)
set_option maxHeartbeats 4000000 in
set_option maxRecDepth 1000000 in
theorem part0 {c0 c1 c2 c3 c4 c5 c6 c7 c8 c9 c10 c11 c12 c13 c19 c20 c21 c22 c23 c24 c25 c26 c27 c28 c29 c30 c31 c32 c33 c34 c35 c36 c37 c38 c39 c40 c41 c42 c43 c44 c45 c46 c47 c48 c49 c50 c51 c52 c53 c54 c55 c56 c57 c58 c59 c60 c61 c62 c63 c64 c65 c66 c67 c68 c69 c70 c71 c72 c73 c74 c75 c76 c77 c78 c79 c80 c81 c82 c83 c84 c85 c86 c87 c88 c89 c90 c91 c92 c93 c94 c95 c96 c97 c98 c99 c100 c101 c102 c103 c104 c105 c106 c107 c108 c109 c110 c111 c112 c113 c114 c115 c116 c117 c118 c119 c120 c121 c122 c123 c124 c125 c126 c127 c128 c129 c130 c131 c132 c133 c134 c135 c136 c137 c138 c139 c140 c141 c142 c143 c144 c145 c146 c147 c148 c149 c150 c151 c152 c153 c154 c155 c156 c157 c158 c159 c160 c161 c162 c163 c164 c165 c167 c168 c169 c170 c171 c172 c173 c174 c175 c176 c177 c178 c179 c180 c181 c182 c183 c184 c185 c186 c187 c188 c189 c190 c191 c192 c193 c194 c195 c196 c197 c198 c199 c200 c201 c202 c203 c204 c205 c206 c207 c208 c209 c210 c211 c212 c213 c214 c215 c216 c217 c218 c219 c220 c221 c222 c223 c224 c225 c226 c227 c228 c229 c230 c231 c232 c233 c234 c235 c236 c237 c238 c239 c240 c241 c242 c243 c244 c245 c246 c247 c248 c249 c250 c251 c252 c253 c254 c255 c256 c257 c258 c259 c260 c261 c262 c263 : Value} {K : Act → World → Prop} {Q0 : Exit → Act → World → Prop} {W : World} {m1 p1 p2 MV : Int} {LM : List Com} {aM : Option Addr} {kM cM : Nat} {BB : Bool} (h0 : BB = true → mdC m1 LM p1 p2 = 0) (hMV : mdV m1 LM p1 p2 = MV) (hk : kM ≤ 61) (hl : LM.length = kM) (hr : Rd Com.enc 3 W aM LM)
    (hK : ∀ (u2 u29 u30 u167 u168 u169 u170 u171 u172 u173 u174 u175 u176 u177 u178 u179 u180 u181 u182 u183 u184 u185 u186 u187 u188 : Value) (wx : World), Hid (Below W.heap.size W wx) → K ⟨#[c0, c1, u2, c3, c4, c5, c6, c7, c8, c9, c10, c11, c12, c13, (.int .i64 m1), (.slice aM kM cM), (.int .i64 p1), (.int .i64 p2), (.int .i64 MV), c19, c20, c21, c22, c23, c24, c25, c26, c27, c28, u29, u30, c31, c32, c33, c34, c35, c36, c37, c38, c39, c40, c41, c42, c43, c44, c45, c46, c47, c48, c49, c50, c51, c52, c53, c54, c55, c56, c57, c58, c59, c60, c61, c62, c63, c64, c65, c66, c67, c68, c69, c70, c71, c72, c73, c74, c75, c76, c77, c78, c79, c80, c81, c82, c83, c84, c85, c86, c87, c88, c89, c90, c91, c92, c93, c94, c95, c96, c97, c98, c99, c100, c101, c102, c103, c104, c105, c106, c107, c108, c109, c110, c111, c112, c113, c114, c115, c116, c117, c118, c119, c120, c121, c122, c123, c124, c125, c126, c127, c128, c129, c130, c131, c132, c133, c134, c135, c136, c137, c138, c139, c140, c141, c142, c143, c144, c145, c146, c147, c148, c149, c150, c151, c152, c153, c154, c155, c156, c157, c158, c159, c160, c161, c162, c163, c164, c165, (.bool BB), u167, u168, u169, u170, u171, u172, u173, u174, u175, u176, u177, u178, u179, u180, u181, u182, u183, u184, u185, u186, u187, u188, c189, c190, c191, c192, c193, c194, c195, c196, c197, c198, c199, c200, c201, c202, c203, c204, c205, c206, c207, c208, c209, c210, c211, c212, c213, c214, c215, c216, c217, c218, c219, c220, c221, c222, c223, c224, c225, c226, c227, c228, c229, c230, c231, c232, c233, c234, c235, c236, c237, c238, c239, c240, c241, c242, c243, c244, c245, c246, c247, c248, c249, c250, c251, c252, c253, c254, c255, c256, c257, c258, c259, c260, c261, c262, c263], []⟩ wx) :
    Code.wp Try.prog cdI166 (Exit.then K Q0) ⟨#[c0, c1, c2, c3, c4, c5, c6, c7, c8, c9, c10, c11, c12, c13, (.int .i64 m1), (.slice aM kM cM), (.int .i64 p1), (.int .i64 p2), (.int .i64 MV), c19, c20, c21, c22, c23, c24, c25, c26, c27, c28, c29, c30, c31, c32, c33, c34, c35, c36, c37, c38, c39, c40, c41, c42, c43, c44, c45, c46, c47, c48, c49, c50, c51, c52, c53, c54, c55, c56, c57, c58, c59, c60, c61, c62, c63, c64, c65, c66, c67, c68, c69, c70, c71, c72, c73, c74, c75, c76, c77, c78, c79, c80, c81, c82, c83, c84, c85, c86, c87, c88, c89, c90, c91, c92, c93, c94, c95, c96, c97, c98, c99, c100, c101, c102, c103, c104, c105, c106, c107, c108, c109, c110, c111, c112, c113, c114, c115, c116, c117, c118, c119, c120, c121, c122, c123, c124, c125, c126, c127, c128, c129, c130, c131, c132, c133, c134, c135, c136, c137, c138, c139, c140, c141, c142, c143, c144, c145, c146, c147, c148, c149, c150, c151, c152, c153, c154, c155, c156, c157, c158, c159, c160, c161, c162, c163, c164, c165, (.bool BB), c167, c168, c169, c170, c171, c172, c173, c174, c175, c176, c177, c178, c179, c180, c181, c182, c183, c184, c185, c186, c187, c188, c189, c190, c191, c192, c193, c194, c195, c196, c197, c198, c199, c200, c201, c202, c203, c204, c205, c206, c207, c208, c209, c210, c211, c212, c213, c214, c215, c216, c217, c218, c219, c220, c221, c222, c223, c224, c225, c226, c227, c228, c229, c230, c231, c232, c233, c234, c235, c236, c237, c238, c239, c240, c241, c242, c243, c244, c245, c246, c247, c248, c249, c250, c251, c252, c253, c254, c255, c256, c257, c258, c259, c260, c261, c262, c263], []⟩ W := by
  have HK := Lib.hid hK
  clear hK
  conv => arg 2; whnf
  cases BB with
  | false =>
    go_wp2_with fail
    exact HK.out _ _ _ _ _ _ _ _ _ _ _ _ _ _ _ _ _ _ _ _ _ _ _ _ _ _ (Lib.hid (Below.refl _ _))
  | true =>
    have h00 := h0 rfl
    obtain ⟨b0, b1, b2⟩ := md_back h00
    rw [hMV] at b1 b2
    obtain ⟨MB, hMB⟩ : ∃ q, mdV m1 LM p2 p1 = q := ⟨_, rfl⟩
    rw [hMB] at b1 b2
    have HMB := Lib.hid hMB
    have HB0 := Lib.hid b0
    have HLM := Lib.hid hl
    have HRM := Lib.hid hr
    have iw : IntKind.i64.wrap (MB + MV) = MB + MV := IntWalk.i64_in _ (by omega)
    have t1 : decide (MB + MV < 0) = false := decide_eq_false (by omega)
    have t2 : decide (1 < MB + MV) = false := decide_eq_false (by omega)
    clear hMB b0 h00 h0 hMV hl hr b1 b2
    go_wp2_with fail
    refine (imMed m1 LM p2 p1 aM kM cM _ (by omega) HLM.out HRM.out).mono ?_
    rintro e wQ ⟨rfl, hbQ⟩
    rw [HMB.out, HB0.out]
    have HBQ := Lib.hid hbQ
    clear hbQ
    go_wp2_with fail
    exact HK.out _ _ _ _ _ _ _ _ _ _ _ _ _ _ _ _ _ _ _ _ _ _ _ _ _ wQ (HBQ)
set_option maxHeartbeats 4000000 in
set_option maxRecDepth 1000000 in
theorem part2 {c0 c1 c2 c6 c7 c9 c10 c11 c12 c13 c14 c15 c16 c17 c18 c19 c20 c21 c22 c23 c24 c25 c26 c27 c28 c29 c30 c31 c32 c33 c34 c35 c36 c37 c38 c39 c40 c41 c42 c43 c44 c45 c46 c47 c48 c49 c50 c51 c52 c53 c54 c55 c56 c57 c58 c59 c60 c61 c62 c63 c64 c65 c66 c67 c68 c69 c70 c71 c72 c73 c74 c75 c76 c77 c78 c79 c80 c81 c82 c83 c84 c85 c86 c87 c88 c89 c90 c91 c92 c93 c94 c95 c96 c97 c98 c99 c100 c101 c102 c103 c104 c105 c106 c107 c108 c109 c110 c111 c112 c113 c114 c115 c116 c117 c118 c119 c120 c121 c122 c123 c124 c125 c126 c127 c128 c129 c130 c131 c132 c133 c134 c135 c136 c137 c138 c139 c140 c141 c142 c143 c144 c145 c146 c147 c148 c149 c150 c151 c152 c153 c154 c155 c156 c157 c158 c159 c160 c161 c162 c163 c164 c165 c166 c167 c168 c169 c170 c171 c172 c173 c174 c175 c176 c177 c178 c179 c180 c181 c182 c183 c184 c185 c186 c187 c188 c189 c190 c191 c192 c193 c194 c195 c196 c197 c198 c199 c200 c201 c202 c203 c204 c205 c206 c207 c208 c209 c210 c211 c212 c213 c214 c215 c216 c217 c218 c219 c220 c221 c222 c223 c224 c225 c226 c227 c228 c229 c230 c231 c233 c234 c235 c236 c237 c238 c239 c240 c241 c242 c243 c244 c245 c246 c247 c248 c249 c250 c251 c252 c253 c254 c255 c256 c257 c258 c259 c260 c261 c262 c263 : Value} {K : Act → World → Prop} {Q0 : Exit → Act → World → Prop} {W : World} {cn fi : Int} {LD : List Com} {SS : List Int} {aD aT : Option Addr} {kD cD nS cT : Nat} {BB : Bool} (h0 : BB = true → kD = 1) (hkD : kD ≤ 61) (hnS : nS ≤ 40) (hlD : LD.length = kD) (hlS : SS.length = nS) (hC : slC cn LD SS = 0) (hone : ∀ x, LD = [x] → (x.a = fi ∨ x.b = fi) → slV cn LD SS = 0) (hD : Rd Com.enc 3 W aD LD) (hT : Rd eI 1 W aT SS)
    (hQ : ∀ (u34 u35 u36 u233 u234 u235 u236 u237 u238 u239 u240 u241 u242 u243 u244 u245 u246 u247 u248 u249 u250 u251 u252 u253 u254 u255 u256 u257 u258 u259 u260 u261 u262 u263 : Value) (wx : World), Hid (Below W.heap.size W wx) → Q0 .ret ⟨#[c0, c1, .bool true, (.int .i64 cn), (.slice aD kD cD), (.int .i64 fi), c6, c7, (.slice aT nS cT), c9, c10, c11, c12, c13, c14, c15, c16, c17, c18, c19, c20, c21, c22, c23, c24, c25, c26, c27, c28, c29, c30, c31, c32, c33, u34, u35, u36, c37, c38, c39, c40, c41, c42, c43, c44, c45, c46, c47, c48, c49, c50, c51, c52, c53, c54, c55, c56, c57, c58, c59, c60, c61, c62, c63, c64, c65, c66, c67, c68, c69, c70, c71, c72, c73, c74, c75, c76, c77, c78, c79, c80, c81, c82, c83, c84, c85, c86, c87, c88, c89, c90, c91, c92, c93, c94, c95, c96, c97, c98, c99, c100, c101, c102, c103, c104, c105, c106, c107, c108, c109, c110, c111, c112, c113, c114, c115, c116, c117, c118, c119, c120, c121, c122, c123, c124, c125, c126, c127, c128, c129, c130, c131, c132, c133, c134, c135, c136, c137, c138, c139, c140, c141, c142, c143, c144, c145, c146, c147, c148, c149, c150, c151, c152, c153, c154, c155, c156, c157, c158, c159, c160, c161, c162, c163, c164, c165, c166, c167, c168, c169, c170, c171, c172, c173, c174, c175, c176, c177, c178, c179, c180, c181, c182, c183, c184, c185, c186, c187, c188, c189, c190, c191, c192, c193, c194, c195, c196, c197, c198, c199, c200, c201, c202, c203, c204, c205, c206, c207, c208, c209, c210, c211, c212, c213, c214, c215, c216, c217, c218, c219, c220, c221, c222, c223, c224, c225, c226, c227, c228, c229, c230, c231, (.bool BB), u233, u234, u235, u236, u237, u238, u239, u240, u241, u242, u243, u244, u245, u246, u247, u248, u249, u250, u251, u252, u253, u254, u255, u256, u257, u258, u259, u260, u261, u262, u263], []⟩ wx)
    (hK : ∀ (u2 u34 u35 u36 u233 u234 u235 u236 u237 u238 u239 u240 u241 u242 u243 u244 u245 u246 u247 u248 u249 u250 u251 u252 u253 u254 u255 u256 u257 u258 u259 u260 u261 u262 u263 : Value) (wx : World), Hid (Below W.heap.size W wx) → K ⟨#[c0, c1, u2, (.int .i64 cn), (.slice aD kD cD), (.int .i64 fi), c6, c7, (.slice aT nS cT), c9, c10, c11, c12, c13, c14, c15, c16, c17, c18, c19, c20, c21, c22, c23, c24, c25, c26, c27, c28, c29, c30, c31, c32, c33, u34, u35, u36, c37, c38, c39, c40, c41, c42, c43, c44, c45, c46, c47, c48, c49, c50, c51, c52, c53, c54, c55, c56, c57, c58, c59, c60, c61, c62, c63, c64, c65, c66, c67, c68, c69, c70, c71, c72, c73, c74, c75, c76, c77, c78, c79, c80, c81, c82, c83, c84, c85, c86, c87, c88, c89, c90, c91, c92, c93, c94, c95, c96, c97, c98, c99, c100, c101, c102, c103, c104, c105, c106, c107, c108, c109, c110, c111, c112, c113, c114, c115, c116, c117, c118, c119, c120, c121, c122, c123, c124, c125, c126, c127, c128, c129, c130, c131, c132, c133, c134, c135, c136, c137, c138, c139, c140, c141, c142, c143, c144, c145, c146, c147, c148, c149, c150, c151, c152, c153, c154, c155, c156, c157, c158, c159, c160, c161, c162, c163, c164, c165, c166, c167, c168, c169, c170, c171, c172, c173, c174, c175, c176, c177, c178, c179, c180, c181, c182, c183, c184, c185, c186, c187, c188, c189, c190, c191, c192, c193, c194, c195, c196, c197, c198, c199, c200, c201, c202, c203, c204, c205, c206, c207, c208, c209, c210, c211, c212, c213, c214, c215, c216, c217, c218, c219, c220, c221, c222, c223, c224, c225, c226, c227, c228, c229, c230, c231, (.bool BB), u233, u234, u235, u236, u237, u238, u239, u240, u241, u242, u243, u244, u245, u246, u247, u248, u249, u250, u251, u252, u253, u254, u255, u256, u257, u258, u259, u260, u261, u262, u263], []⟩ wx) :
    Code.wp Try.prog cdI232 (Exit.then K Q0) ⟨#[c0, c1, c2, (.int .i64 cn), (.slice aD kD cD), (.int .i64 fi), c6, c7, (.slice aT nS cT), c9, c10, c11, c12, c13, c14, c15, c16, c17, c18, c19, c20, c21, c22, c23, c24, c25, c26, c27, c28, c29, c30, c31, c32, c33, c34, c35, c36, c37, c38, c39, c40, c41, c42, c43, c44, c45, c46, c47, c48, c49, c50, c51, c52, c53, c54, c55, c56, c57, c58, c59, c60, c61, c62, c63, c64, c65, c66, c67, c68, c69, c70, c71, c72, c73, c74, c75, c76, c77, c78, c79, c80, c81, c82, c83, c84, c85, c86, c87, c88, c89, c90, c91, c92, c93, c94, c95, c96, c97, c98, c99, c100, c101, c102, c103, c104, c105, c106, c107, c108, c109, c110, c111, c112, c113, c114, c115, c116, c117, c118, c119, c120, c121, c122, c123, c124, c125, c126, c127, c128, c129, c130, c131, c132, c133, c134, c135, c136, c137, c138, c139, c140, c141, c142, c143, c144, c145, c146, c147, c148, c149, c150, c151, c152, c153, c154, c155, c156, c157, c158, c159, c160, c161, c162, c163, c164, c165, c166, c167, c168, c169, c170, c171, c172, c173, c174, c175, c176, c177, c178, c179, c180, c181, c182, c183, c184, c185, c186, c187, c188, c189, c190, c191, c192, c193, c194, c195, c196, c197, c198, c199, c200, c201, c202, c203, c204, c205, c206, c207, c208, c209, c210, c211, c212, c213, c214, c215, c216, c217, c218, c219, c220, c221, c222, c223, c224, c225, c226, c227, c228, c229, c230, c231, (.bool BB), c233, c234, c235, c236, c237, c238, c239, c240, c241, c242, c243, c244, c245, c246, c247, c248, c249, c250, c251, c252, c253, c254, c255, c256, c257, c258, c259, c260, c261, c262, c263], []⟩ W := by
  have HK := Lib.hid hK
  clear hK
  conv => arg 2; whnf
  have HQ := Lib.hid hQ
  clear hQ
  cases BB with
  | false =>
    go_wp2_with fail
    exact HK.out _ _ _ _ _ _ _ _ _ _ _ _ _ _ _ _ _ _ _ _ _ _ _ _ _ _ _ _ _ _ _ _ _ _ _ _ (Lib.hid (Below.refl _ _))
  | true =>
    obtain ⟨y, hy⟩ := one_of (hlD.trans (h0 rfl))
    have hT0 : (y.a = fi ∨ y.b = fi) → slV cn LD SS = 0 := hone y hy
    obtain ⟨TT, hTT⟩ : ∃ t, slV cn LD SS = t := ⟨_, rfl⟩
    rw [hTT] at hT0
    have HTT := Lib.hid hTT
    obtain ⟨bb, ob, hab, hbl, hc0⟩ := hD 0 y (by rw [hy]; rfl)
    subst hab
    have HLD := Lib.hid hlD
    have HLS := Lib.hid hlS
    have HRD := Lib.hid hD
    have HRT := Lib.hid hT
    have HS5 := Lib.hid hC
    have HY := Lib.hid hy
    have HT0 := Lib.hid hT0
    have dk : (0 : Int) < (kD : Int) := by have := h0 rfl; omega
    have HK0 := Lib.hid hkD
    clear hlD hlS hD hT hC hc0 hone hbl hy h0 hTT hT0
    go_wp2_with fail
    refine (imSl cn LD SS _ aT kD cD nS cT _ (by omega) (by omega) HLD.out HRD.out HLS.out HRT.out).mono ?_
    rintro e wF ⟨rfl, hbF⟩
    rw [HS5.out, HTT.out]
    have HBF := Lib.hid hbF
    obtain ⟨b2, o2, hab2, hbl2, hc⟩ := (HRD.out.below hbF) 0 y (by rw [HY.out]; rfl)
    simp only [Option.some.injEq, Addr.mk.injEq] at hab2
    obtain ⟨rfl, rfl, -⟩ := hab2
    have c0 : wF.cell? ⟨bb, ob, none⟩ = some (.int .i64 y.a) := hc 0 _ rfl
    have c1 : wF.cell? ⟨bb, ob + 1, none⟩ = some (.int .i64 y.b) := by have := hc 1 _ rfl; rw [Nat.zero_mul, Nat.add_zero] at this; exact this
    clear hbF hc hbl2
    by_cases g1 : y.a = fi
    · have f1 : (y.a == fi) = true := beq_iff_eq.2 g1
      have f3 := HT0.out (.inl g1)
      subst f3
      clear g1
      go_wp2_with fail
      exact HQ.out _ _ _ _ _ _ _ _ _ _ _ _ _ _ _ _ _ _ _ _ _ _ _ _ _ _ _ _ _ _ _ _ _ _ wF (HBF)
    · have f1 : (y.a == fi) = false := beq_eq_false_iff_ne.2 g1
      clear g1
      by_cases g2 : y.b = fi
      · have f2 : (y.b == fi) = true := beq_iff_eq.2 g2
        have f3 := HT0.out (.inr g2)
        subst f3
        clear g2
        go_wp2_with fail
        exact HQ.out _ _ _ _ _ _ _ _ _ _ _ _ _ _ _ _ _ _ _ _ _ _ _ _ _ _ _ _ _ _ _ _ _ _ wF (HBF)
      · have f2 : (y.b == fi) = false := beq_eq_false_iff_ne.2 g2
        clear g2
        go_wp2_with fail
        exact HQ.out _ _ _ _ _ _ _ _ _ _ _ _ _ _ _ _ _ _ _ _ _ _ _ _ _ _ _ _ _ _ _ _ _ _ wF (HBF)
end Go.Proofs.Ytdcldiadjdpaeaa
