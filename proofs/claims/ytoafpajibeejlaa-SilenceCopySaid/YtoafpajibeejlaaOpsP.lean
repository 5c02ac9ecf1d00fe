/- The statements of the generator of operations, one by one. -/
import Derived.Test.YtoafpajibeejlaaOpsD
import Derived.Deep.MidRow
set_option linter.unusedVariables false
set_option linter.unusedSimpArgs false
namespace Go.Proofs.Ytoafpajibeejlaa
open Go.RowKit

def OSil (wr : World) (base : Nat) (tk kd til oid : Int) (x1 : ByteArray) (cls : Int) (wx : World) : Prop := ∃ (s : Sil) (AS : Option Addr) (nS cS : Nat), Blk wx (wr.heap.size + 1) 42 #[.int .i64 kd, .int .i64 s.id, .slice AS nS cS, .string s.ow, .string s.se, .int .i64 s.cl, .int .i64 s.fr, .int .i64 s.un, .int .i64 s.cp, .int .i64 s.hd, .int .i64 oid, .string x1, .int .i64 tk, .int .i64 til, .int .i64 cls, .int .i64 0, .string ⟨#[]⟩, .int .i64 0, .slice none 0 0, .int .i64 0, .int .i64 0, .string ⟨#[]⟩] ∧ Below wr.heap.size wr wx ∧ Mats wx base (.slice AS nS cS) s.ms ∧ GFit tk s
def OLab (wr : World) (base : Nat) (tk kd til oid : Int) (x1 : ByteArray) (cls : Int) (s : Sil) (AS : Option Addr) (nS cS : Nat) (s9 : Value) (wx : World) : Prop := ∃ (ls : List Lab) (AL : Option Addr) (nL cL : Nat), s9 = .slice AL nL cL ∧ Blk wx (wr.heap.size + 1) 42 #[.int .i64 kd, .int .i64 s.id, .slice AS nS cS, .string s.ow, .string s.se, .int .i64 s.cl, .int .i64 s.fr, .int .i64 s.un, .int .i64 s.cp, .int .i64 s.hd, .int .i64 oid, .string x1, .int .i64 tk, .int .i64 til, .int .i64 cls, .int .i64 0, .string ⟨#[]⟩, .int .i64 0, .slice none 0 0, .int .i64 0, .int .i64 0, .string ⟨#[]⟩] ∧ Below wr.heap.size wr wx ∧ Mats wx base (.slice AS nS cS) s.ms ∧ Labs wx base (.slice AL nL cL) ls ∧ ls.length ≤ 6 ∧ ∀ x ∈ ls, GoodLab x
def OPg (wr : World) (base : Nat) (tk kd til oid : Int) (x1 : ByteArray) (cls : Int) (s : Sil) (AS : Option Addr) (nS cS : Nat) (ls : List Lab) (AL : Option Addr) (nL cL : Nat) (wx : World) : Prop := Blk wx (wr.heap.size + 1) 42 #[.int .i64 kd, .int .i64 s.id, .slice AS nS cS, .string s.ow, .string s.se, .int .i64 s.cl, .int .i64 s.fr, .int .i64 s.un, .int .i64 s.cp, .int .i64 s.hd, .int .i64 oid, .string x1, .int .i64 tk, .int .i64 til, .int .i64 cls, .int .i64 0, .string ⟨#[114]⟩, .int .i64 1, .slice AL nL cL, .int .i64 tk, .int .i64 0, .string ⟨#[]⟩] ∧ Below wr.heap.size wr wx ∧ Mats wx base (.slice AS nS cS) s.ms ∧ Labs wx base (.slice AL nL cL) ls
def OLit (wr : World) (tk : Int) (wx : World) : Prop := ∃ (kd til oid cls : Int) (x1 : ByteArray), (0 ≤ kd ∧ kd ≤ 3) ∧ (0 ≤ til ∧ til ≤ 2000) ∧ (1 ≤ oid ∧ oid ≤ 5) ∧ (0 ≤ cls ∧ cls ≤ 4) ∧ x1 ∈ persons ∧ Blk wx (wr.heap.size + 1) 42 #[.int .i64 kd, .int .i64 0, .slice none 0 0, .string ⟨#[]⟩, .string ⟨#[]⟩, .int .i64 0, .int .i64 0, .int .i64 0, .int .i64 0, .int .i64 0, .int .i64 oid, .string x1, .int .i64 tk, .int .i64 til, .int .i64 cls, .int .i64 0, .string ⟨#[]⟩, .int .i64 0, .slice none 0 0, .int .i64 0, .int .i64 0, .string ⟨#[]⟩] ∧ Below wr.heap.size wr wx
/-- the region of a number, out of the code -/
def regOf (n : Nat) : Code → Option Code
  | .region i ops d => if i = n then some (.region i ops d) else none
  | .loop c => regOf n c
  | .seq a b => match regOf n a with
    | some c => some c
    | none => regOf n b
  | .block _ c => regOf n c
  | .scope c => regOf n c
  | .cond _ a b => match regOf n a with
    | some c => some c
    | none => regOf n b
  | _ => none
noncomputable def opsReg (n : Nat) : Code := ((Try.f16.body.bind (regOf n)).getD .skip)

def P9 (u0 u1 u2 u3 u5 u8 u9 u10 u11 u12 u13 u14 u15 u16 u17 u18 u19 u20 u21 u22 u23 u24 u25 u26 u27 u28 u29 u30 u31 u32 u33 u34 u35 u36 u37 u38 u39 u40 u41 u42 u43 u44 u45 u46 u47 u48 u49 u50 u51 u52 u53 u54 u55 u56 u57 u58 u59 u60 u61 u62 u63 u64 u65 u66 u67 u68 u69 u70 u71 u72 u73 u74 u75 u76 u77 u78 u79 u80 u81 u82 u83 u84 u85 u86 u87 u88 u89 u90 u91 u92 u93 u94 u95 u96 u97 u98 u99 u100 u101 u102 u103 u104 u105 u106 u107 u108 u109 u110 u111 u112 u113 u114 u115 : Value) (tk nn mm : Int) (wr : World) (a : Act) (w' : World) : Prop := ∃ v37 v38 v39 v40 v41 v42 v43 v44 v45 v46 v47 v48 v49 v50 v51 v52 v53 v54 v55 v56 v57 v58 : Value, OLit wr tk w' ∧ a = ⟨#[u0, u1, u2, u3, .int .i64 tk, u5, .int .i64 nn, .int .i64 mm, .pointer (some ⟨wr.heap.size + 1, 0, none⟩), u9, u10, u11, u12, u13, u14, u15, u16, u17, u18, u19, u20, u21, u22, u23, u24, u25, u26, u27, u28, u29, u30, u31, u32, u33, u34, u35, u36, v37, v38, v39, v40, v41, v42, v43, v44, v45, v46, v47, v48, v49, v50, v51, v52, v53, v54, v55, v56, v57, v58, u59, u60, u61, u62, u63, u64, u65, u66, u67, u68, u69, u70, u71, u72, u73, u74, u75, u76, u77, u78, u79, u80, u81, u82, u83, u84, u85, u86, u87, u88, u89, u90, u91, u92, u93, u94, u95, u96, u97, u98, u99, u100, u101, u102, u103, u104, u105, u106, u107, u108, u109, u110, u111, u112, u113, u114, u115], []⟩
set_option maxRecDepth 1000000 in
set_option maxHeartbeats 4000000 in
theorem ops_r9 {K : Act → World → Prop} {Q : Exit → Act → World → Prop} {u0 u1 u2 u3 u5 u8 u9 u10 u11 u12 u13 u14 u15 u16 u17 u18 u19 u20 u21 u22 u23 u24 u25 u26 u27 u28 u29 u30 u31 u32 u33 u34 u35 u36 u37 u38 u39 u40 u41 u42 u43 u44 u45 u46 u47 u48 u49 u50 u51 u52 u53 u54 u55 u56 u57 u58 u59 u60 u61 u62 u63 u64 u65 u66 u67 u68 u69 u70 u71 u72 u73 u74 u75 u76 u77 u78 u79 u80 u81 u82 u83 u84 u85 u86 u87 u88 u89 u90 u91 u92 u93 u94 u95 u96 u97 u98 u99 u100 u101 u102 u103 u104 u105 u106 u107 u108 u109 u110 u111 u112 u113 u114 u115 : Value} {tk nn mm : Int} {wr : World} (hp1 : 0 ≤ nn) (hp2 : nn < 100000) (hp3 : 0 ≤ mm) (hp4 : mm < 100000) (htk1 : 0 ≤ tk) (htk2 : tk ≤ 100) (hK : ∀ a w', P9 u0 u1 u2 u3 u5 u8 u9 u10 u11 u12 u13 u14 u15 u16 u17 u18 u19 u20 u21 u22 u23 u24 u25 u26 u27 u28 u29 u30 u31 u32 u33 u34 u35 u36 u37 u38 u39 u40 u41 u42 u43 u44 u45 u46 u47 u48 u49 u50 u51 u52 u53 u54 u55 u56 u57 u58 u59 u60 u61 u62 u63 u64 u65 u66 u67 u68 u69 u70 u71 u72 u73 u74 u75 u76 u77 u78 u79 u80 u81 u82 u83 u84 u85 u86 u87 u88 u89 u90 u91 u92 u93 u94 u95 u96 u97 u98 u99 u100 u101 u102 u103 u104 u105 u106 u107 u108 u109 u110 u111 u112 u113 u114 u115 tk nn mm wr a w' → K a w') :
    Code.wp Try.prog (opsReg 9) (Exit.then K Q) ⟨#[u0, u1, u2, u3, .int .i64 tk, u5, .int .i64 nn, .int .i64 mm, u8, u9, u10, u11, u12, u13, u14, u15, u16, u17, u18, u19, u20, u21, u22, u23, u24, u25, u26, u27, u28, u29, u30, u31, u32, u33, u34, u35, u36, u37, u38, u39, u40, u41, u42, u43, u44, u45, u46, u47, u48, u49, u50, u51, u52, u53, u54, u55, u56, u57, u58, u59, u60, u61, u62, u63, u64, u65, u66, u67, u68, u69, u70, u71, u72, u73, u74, u75, u76, u77, u78, u79, u80, u81, u82, u83, u84, u85, u86, u87, u88, u89, u90, u91, u92, u93, u94, u95, u96, u97, u98, u99, u100, u101, u102, u103, u104, u105, u106, u107, u108, u109, u110, u111, u112, u113, u114, u115], []⟩ wr := by
  conv => arg 2; whnf
  obtain ⟨q1, e1, q1a, q1b⟩ : ∃ q, nn / 6 = q ∧ 0 ≤ q ∧ q ≤ 100000 := ⟨_, rfl, by omega, by omega⟩
  obtain ⟨kd, e2, kd1, kd2⟩ : ∃ q, q1 % 4 = q ∧ 0 ≤ q ∧ q ≤ 3 := ⟨_, rfl, by omega, by omega⟩
  obtain ⟨q2, e3, q2a, q2b⟩ : ∃ q, nn / 24 = q ∧ 0 ≤ q ∧ q ≤ 100000 := ⟨_, rfl, by omega, by omega⟩
  obtain ⟨c2, e4, c2a, c2b⟩ : ∃ q, q2 % 5 = q ∧ 0 ≤ q ∧ q ≤ 4 := ⟨_, rfl, by omega, by omega⟩
  obtain ⟨q3, e5, q3a, q3b⟩ : ∃ q, nn / 120 = q ∧ 0 ≤ q ∧ q ≤ 100000 := ⟨_, rfl, by omega, by omega⟩
  obtain ⟨i3, e6, i3a, i3b⟩ : ∃ q, q3 % 4 = q ∧ 0 ≤ q ∧ q < 4 := ⟨_, rfl, by omega, by omega⟩
  obtain ⟨cls, e7, cls1, cls2⟩ : ∃ q, mm % 5 = q ∧ 0 ≤ q ∧ q ≤ 4 := ⟨_, rfl, by omega, by omega⟩
  obtain ⟨q4, e8, q4a, q4b⟩ : ∃ q, mm / 5 = q ∧ 0 ≤ q ∧ q ≤ 100000 := ⟨_, rfl, by omega, by omega⟩
  obtain ⟨c4, e9, c4a, c4b⟩ : ∃ q, q4 % 14 = q ∧ 0 ≤ q ∧ q ≤ 13 := ⟨_, rfl, by omega, by omega⟩
  obtain ⟨x1, hx1m, hx1⟩ := pers_at i3 i3a i3b
  have HX1 := Lib.hid hx1m
  have HK := Lib.hid hK
  clear hx1m hK
  go_wp2_with fail
  refine (persons_any _).mono ?_
  rintro e w' ⟨rfl, hw'⟩
  have hx := hx1 wr _ rfl
  rw [← hw'] at hx
  have hsw : w'.heap.size = wr.heap.size + 1 := by rw [hw']; simp
  have HBW : Hid (Below wr.heap.size wr w') := by rw [hw']; exact bel1 _ _
  clear hw' hx1
  go_wp2_with (refine wpList_store_new rfl 42 (.tmp 8) (.tmp 58) rfl _ (by simp [*]) _ _ rfl rfl (by kernel_rfl) rfl (by simp [Value.oneCell']) ?_)
  refine HK.out _ _ ?_
  unfold P9
  (repeat apply Exists.intro)
  refine ⟨?_, rfl⟩
  exact ⟨kd, tk + c4, 1 + c2, cls, x1, ⟨kd1, kd2⟩, ⟨by omega, by omega⟩, ⟨by omega, by omega⟩, ⟨cls1, cls2⟩, HX1.out, Blk.newAt _ _ hsw, HBW.out.alloc (by omega) _⟩
def P16 (u1 u2 u3 u6 u7 u9 u10 u11 u12 u13 u14 u15 u16 u17 u18 u19 u20 u21 u22 u23 u24 u25 u26 u27 u28 u29 u30 u31 u32 u33 u34 u35 u36 u37 u38 u39 u40 u41 u42 u43 u44 u45 u46 u47 u48 u49 u50 u51 u52 u53 u54 u55 u56 u57 u58 u59 u60 u61 u62 u63 u64 u65 u66 u67 u68 u69 u70 u71 u72 u73 u74 u75 u76 u77 u78 u79 u80 u81 u82 u83 u84 u85 u86 u87 u88 u89 u90 u91 u92 u93 u94 u95 u96 u97 u98 u99 u100 u101 u102 u103 u104 u105 u106 u107 u108 u109 u110 u111 u112 u113 u114 u115 : Value) (A : Option Addr) (n c base k : Nat) (tk kd til oid cls : Int) (x1 : ByteArray) (wr : World) (a : Act) (w' : World) : Prop := ∃ v83 v84 v85 v86 v87 v88 v89 : Value, OSil wr base tk kd til oid x1 cls w' ∧ a = ⟨#[.slice A n c, u1, u2, u3, .int .i64 tk, .int .i64 k, u6, u7, .pointer (some ⟨wr.heap.size + 1, 0, none⟩), u9, u10, u11, u12, u13, u14, u15, u16, u17, u18, u19, u20, u21, u22, u23, u24, u25, u26, u27, u28, u29, u30, u31, u32, u33, u34, u35, u36, u37, u38, u39, u40, u41, u42, u43, u44, u45, u46, u47, u48, u49, u50, u51, u52, u53, u54, u55, u56, u57, u58, u59, u60, u61, u62, u63, u64, u65, u66, u67, u68, u69, u70, u71, u72, u73, u74, u75, u76, u77, u78, u79, u80, u81, u82, v83, v84, v85, v86, v87, v88, v89, u90, u91, u92, u93, u94, u95, u96, u97, u98, u99, u100, u101, u102, u103, u104, u105, u106, u107, u108, u109, u110, u111, u112, u113, u114, u115], []⟩
set_option maxRecDepth 1000000 in
set_option maxHeartbeats 4000000 in
theorem ops_r16 {K : Act → World → Prop} {Q : Exit → Act → World → Prop} {u1 u2 u3 u6 u7 u9 u10 u11 u12 u13 u14 u15 u16 u17 u18 u19 u20 u21 u22 u23 u24 u25 u26 u27 u28 u29 u30 u31 u32 u33 u34 u35 u36 u37 u38 u39 u40 u41 u42 u43 u44 u45 u46 u47 u48 u49 u50 u51 u52 u53 u54 u55 u56 u57 u58 u59 u60 u61 u62 u63 u64 u65 u66 u67 u68 u69 u70 u71 u72 u73 u74 u75 u76 u77 u78 u79 u80 u81 u82 u83 u84 u85 u86 u87 u88 u89 u90 u91 u92 u93 u94 u95 u96 u97 u98 u99 u100 u101 u102 u103 u104 u105 u106 u107 u108 u109 u110 u111 u112 u113 u114 u115 : Value} {A : Option Addr} {n c base k : Nat} {tk kd til oid cls : Int} {x1 : ByteArray} {wr : World} {l : List Int} {w3 : World} (HIX : Hid (Ints wr base (.slice A n c) l)) (HB1 : Hid (Blk w3 (wr.heap.size + 1) 42 #[.int .i64 kd, .int .i64 0, .slice none 0 0, .string ⟨#[]⟩, .string ⟨#[]⟩, .int .i64 0, .int .i64 0, .int .i64 0, .int .i64 0, .int .i64 0, .int .i64 oid, .string x1, .int .i64 tk, .int .i64 til, .int .i64 cls, .int .i64 0, .string ⟨#[]⟩, .int .i64 0, .slice none 0 0, .int .i64 0, .int .i64 0, .string ⟨#[]⟩] ∧ Below wr.heap.size wr w3)) (hk14 : k < 14) (htk1 : 0 ≤ tk) (htk2 : tk ≤ 100) (hszr : base ≤ wr.heap.size) (hK : ∀ a w', P16 u1 u2 u3 u6 u7 u9 u10 u11 u12 u13 u14 u15 u16 u17 u18 u19 u20 u21 u22 u23 u24 u25 u26 u27 u28 u29 u30 u31 u32 u33 u34 u35 u36 u37 u38 u39 u40 u41 u42 u43 u44 u45 u46 u47 u48 u49 u50 u51 u52 u53 u54 u55 u56 u57 u58 u59 u60 u61 u62 u63 u64 u65 u66 u67 u68 u69 u70 u71 u72 u73 u74 u75 u76 u77 u78 u79 u80 u81 u82 u83 u84 u85 u86 u87 u88 u89 u90 u91 u92 u93 u94 u95 u96 u97 u98 u99 u100 u101 u102 u103 u104 u105 u106 u107 u108 u109 u110 u111 u112 u113 u114 u115 A n c base k tk kd til oid cls x1 wr a w' → K a w') :
    Code.wp Try.prog (opsReg 16) (Exit.then K Q) ⟨#[.slice A n c, u1, u2, u3, .int .i64 tk, .int .i64 k, u6, u7, .pointer (some ⟨wr.heap.size + 1, 0, none⟩), u9, u10, u11, u12, u13, u14, u15, u16, u17, u18, u19, u20, u21, u22, u23, u24, u25, u26, u27, u28, u29, u30, u31, u32, u33, u34, u35, u36, u37, u38, u39, u40, u41, u42, u43, u44, u45, u46, u47, u48, u49, u50, u51, u52, u53, u54, u55, u56, u57, u58, u59, u60, u61, u62, u63, u64, u65, u66, u67, u68, u69, u70, u71, u72, u73, u74, u75, u76, u77, u78, u79, u80, u81, u82, u83, u84, u85, u86, u87, u88, u89, u90, u91, u92, u93, u94, u95, u96, u97, u98, u99, u100, u101, u102, u103, u104, u105, u106, u107, u108, u109, u110, u111, u112, u113, u114, u115], []⟩ w3 := by
  conv => arg 2; whnf
  have HK := Lib.hid hK
  clear hK
  obtain ⟨d0, d1, d2, d3, d4, d5, d6, d7, d8, d9, d10, d11, d12, d13, d14, d15, d16, d17, d18, d19, d20, d21⟩ := HB1.out.1.twentytwo
  have df := HB1.out.1.frozen
  have hz1 := HB1.out.1.ty.lt
  go_wp2_with (go_at_call 13
               refine (gsil_any _ _ _ base l _ _ _ (by exact HIX.out.below HB1.out.2) (by have := HB1.out.2.size; omega) (by omega) (by omega) (by omega) (by omega)).mono ?_
               rintro e w4 ⟨s, AS, nS, cS, rfl, hmS, hgS, hbS⟩
               have HB4 := Lib.hid (HB1.out.1.below hbS)
               have HG := Lib.hid (And.intro hmS (And.intro hgS hbS))
               have HW4 : Hid (Below wr.heap.size wr w4) := HB1.out.2.trans (hbS.mono HB1.out.2.size)
               clear hmS hgS hbS
               clear d0 d1 d2 d3 d4 d5 d6 d7 d8 d9 d10 d11 d12 d13 d14 d15 d16 d17 d18 d19 d20 d21 df
               obtain ⟨d0, d1, d2, d3, d4, d5, d6, d7, d8, d9, d10, d11, d12, d13, d14, d15, d16, d17, d18, d19, d20, d21⟩ := HB4.out.twentytwo
               have df := HB4.out.frozen)
  refine HK.out _ _ ?_
  unfold P16
  (repeat apply Exists.intro)
  refine ⟨?_, rfl⟩
  exact ⟨s, AS, nS, cS, blk_set9 HB4.out _ _ _ _ _ _ _ _ _, HW4.out.trans (below_set9' w4 (by omega) _ _ _ _ _ _ _ _ _), HG.out.1.keep (fr_set9' (T := [42]) HB4.out.ty (by decide) (by omega) _ _ _ _ _ _ _ _ _) (by decide), HG.out.2.1⟩
def P17 (u1 u2 u3 u4 u6 u9 u10 u11 u12 u13 u14 u15 u16 u17 u18 u19 u20 u21 u22 u23 u24 u25 u26 u27 u28 u29 u30 u31 u32 u33 u34 u35 u36 u37 u38 u39 u40 u41 u42 u43 u44 u45 u46 u47 u48 u49 u50 u51 u52 u53 u54 u55 u56 u57 u58 u59 u60 u61 u62 u63 u64 u65 u66 u67 u68 u69 u70 u71 u72 u73 u74 u75 u76 u77 u78 u79 u80 u81 u82 u83 u84 u85 u86 u87 u88 u89 u90 u91 u92 u93 u94 u95 u96 u97 u98 u99 u100 u101 u102 u103 u104 u105 u106 u107 u108 u109 u110 u111 u112 u113 u114 u115 : Value) (A : Option Addr) (n c base k : Nat) (mm tk kd til oid cls : Int) (x1 : ByteArray) (s : Sil) (AS : Option Addr) (nS cS : Nat) (wr : World) (a : Act) (w' : World) : Prop := ∃ v9 v90 v91 v92 v93 v94 v95 v96 v97 v98 v99 v100 v101 v102 v103 v104 v105 v106 : Value, OLab wr base tk kd til oid x1 cls s AS nS cS v9 w' ∧ a = ⟨#[.slice A n c, u1, u2, u3, u4, .int .i64 k, u6, .int .i64 mm, .pointer (some ⟨wr.heap.size + 1, 0, none⟩), v9, u10, u11, u12, u13, u14, u15, u16, u17, u18, u19, u20, u21, u22, u23, u24, u25, u26, u27, u28, u29, u30, u31, u32, u33, u34, u35, u36, u37, u38, u39, u40, u41, u42, u43, u44, u45, u46, u47, u48, u49, u50, u51, u52, u53, u54, u55, u56, u57, u58, u59, u60, u61, u62, u63, u64, u65, u66, u67, u68, u69, u70, u71, u72, u73, u74, u75, u76, u77, u78, u79, u80, u81, u82, u83, u84, u85, u86, u87, u88, u89, v90, v91, v92, v93, v94, v95, v96, v97, v98, v99, v100, v101, v102, v103, v104, v105, v106, u107, u108, u109, u110, u111, u112, u113, u114, u115], []⟩
set_option maxRecDepth 1000000 in
set_option maxHeartbeats 4000000 in
theorem ops_r17 {K : Act → World → Prop} {Q : Exit → Act → World → Prop} {u1 u2 u3 u4 u6 u9 u10 u11 u12 u13 u14 u15 u16 u17 u18 u19 u20 u21 u22 u23 u24 u25 u26 u27 u28 u29 u30 u31 u32 u33 u34 u35 u36 u37 u38 u39 u40 u41 u42 u43 u44 u45 u46 u47 u48 u49 u50 u51 u52 u53 u54 u55 u56 u57 u58 u59 u60 u61 u62 u63 u64 u65 u66 u67 u68 u69 u70 u71 u72 u73 u74 u75 u76 u77 u78 u79 u80 u81 u82 u83 u84 u85 u86 u87 u88 u89 u90 u91 u92 u93 u94 u95 u96 u97 u98 u99 u100 u101 u102 u103 u104 u105 u106 u107 u108 u109 u110 u111 u112 u113 u114 u115 : Value} {A : Option Addr} {n c base k : Nat} {mm tk kd til oid cls : Int} {x1 : ByteArray} {s : Sil} {AS : Option Addr} {nS cS : Nat} {wr : World} {l : List Int} {w4 : World} (HIX : Hid (Ints wr base (.slice A n c) l)) (HS : Hid (Blk w4 (wr.heap.size + 1) 42 #[.int .i64 kd, .int .i64 s.id, .slice AS nS cS, .string s.ow, .string s.se, .int .i64 s.cl, .int .i64 s.fr, .int .i64 s.un, .int .i64 s.cp, .int .i64 s.hd, .int .i64 oid, .string x1, .int .i64 tk, .int .i64 til, .int .i64 cls, .int .i64 0, .string ⟨#[]⟩, .int .i64 0, .slice none 0 0, .int .i64 0, .int .i64 0, .string ⟨#[]⟩] ∧ Below wr.heap.size wr w4 ∧ Mats w4 base (.slice AS nS cS) s.ms)) (hk14 : k < 14) (hp3 : 0 ≤ mm) (hp4 : mm < 100000) (hszr : base ≤ wr.heap.size) (hK : ∀ a w', P17 u1 u2 u3 u4 u6 u9 u10 u11 u12 u13 u14 u15 u16 u17 u18 u19 u20 u21 u22 u23 u24 u25 u26 u27 u28 u29 u30 u31 u32 u33 u34 u35 u36 u37 u38 u39 u40 u41 u42 u43 u44 u45 u46 u47 u48 u49 u50 u51 u52 u53 u54 u55 u56 u57 u58 u59 u60 u61 u62 u63 u64 u65 u66 u67 u68 u69 u70 u71 u72 u73 u74 u75 u76 u77 u78 u79 u80 u81 u82 u83 u84 u85 u86 u87 u88 u89 u90 u91 u92 u93 u94 u95 u96 u97 u98 u99 u100 u101 u102 u103 u104 u105 u106 u107 u108 u109 u110 u111 u112 u113 u114 u115 A n c base k mm tk kd til oid cls x1 s AS nS cS wr a w' → K a w') :
    Code.wp Try.prog (opsReg 17) (Exit.then K Q) ⟨#[.slice A n c, u1, u2, u3, u4, .int .i64 k, u6, .int .i64 mm, .pointer (some ⟨wr.heap.size + 1, 0, none⟩), u9, u10, u11, u12, u13, u14, u15, u16, u17, u18, u19, u20, u21, u22, u23, u24, u25, u26, u27, u28, u29, u30, u31, u32, u33, u34, u35, u36, u37, u38, u39, u40, u41, u42, u43, u44, u45, u46, u47, u48, u49, u50, u51, u52, u53, u54, u55, u56, u57, u58, u59, u60, u61, u62, u63, u64, u65, u66, u67, u68, u69, u70, u71, u72, u73, u74, u75, u76, u77, u78, u79, u80, u81, u82, u83, u84, u85, u86, u87, u88, u89, u90, u91, u92, u93, u94, u95, u96, u97, u98, u99, u100, u101, u102, u103, u104, u105, u106, u107, u108, u109, u110, u111, u112, u113, u114, u115], []⟩ w4 := by
  conv => arg 2; whnf
  have HK := Lib.hid hK
  clear hK
  have hz4 := HS.out.1.ty.lt
  obtain ⟨hq1, hq2⟩ := pick_bd l (6 * (k : Int) + 4) 64 (by omega)
  go_wp2_with (first
    | (go_at_call 22; refine (pick_any _ _ _ base l _ _ _ (by exact HIX.out.below HS.out.2.1) (by omega) (by omega)).mono ?_; rintro e w' ⟨rfl, rfl⟩)
    | (go_at_call 34
       refine (set_any _ _ _ base [pickZ l (6 * (k : Int) + 4) 64, mm, mm / 6, mm / 36, mm, mm / 6, mm / 36] _ (by exact Ints.newAt _ _ rfl (by simp) (by simp) (by intro x hx; simp at hx; unfold I64; rcases hx with rfl | rfl | rfl | rfl | rfl | rfl | rfl <;> omega)) (by have := HS.out.2.1.size; simp; omega)).mono ?_
       rintro e w5 ⟨ls, AL, nL, cL, rfl, hlL, hbL, hl6, hgl⟩
       have HL5 := Lib.hid (And.intro hlL (And.intro hbL (And.intro hl6 hgl)))
       clear hlL hbL hl6 hgl))
  refine HK.out _ _ ?_
  unfold P17
  (repeat apply Exists.intro)
  refine ⟨?_, rfl⟩
  exact ⟨ls, AL, nL, cL, rfl, (HS.out.1.below (bel1 _ _)).below HL5.out.2.1, (HS.out.2.1.alloc HS.out.2.1.size _).trans (HL5.out.2.1.mono (by have := HS.out.2.1.size; simp; omega)), (HS.out.2.2.below (bel1 _ _)).below HL5.out.2.1, HL5.out.1, HL5.out.2.2.1, HL5.out.2.2.2⟩
def P18 (u0 u1 u2 u3 u5 u6 u7 u10 u11 u12 u13 u14 u15 u16 u17 u18 u19 u20 u21 u22 u23 u24 u25 u26 u27 u28 u29 u30 u31 u32 u33 u34 u35 u36 u37 u38 u39 u40 u41 u42 u43 u44 u45 u46 u47 u48 u49 u50 u51 u52 u53 u54 u55 u56 u57 u58 u59 u60 u61 u62 u63 u64 u65 u66 u67 u68 u69 u70 u71 u72 u73 u74 u75 u76 u77 u78 u79 u80 u81 u82 u83 u84 u85 u86 u87 u88 u89 u90 u91 u92 u93 u94 u95 u96 u97 u98 u99 u100 u101 u102 u103 u104 u105 u106 u107 u108 u109 u110 u111 u112 u113 u114 u115 : Value) (base : Nat) (tk kd til oid cls : Int) (x1 : ByteArray) (s : Sil) (AS : Option Addr) (nS cS : Nat) (ls : List Lab) (AL : Option Addr) (nL cL : Nat) (wr : World) (a : Act) (w' : World) : Prop := ∃ v107 v108 v109 v110 : Value, OPg wr base tk kd til oid x1 cls s AS nS cS ls AL nL cL w' ∧ a = ⟨#[u0, u1, u2, u3, .int .i64 tk, u5, u6, u7, .pointer (some ⟨wr.heap.size + 1, 0, none⟩), .slice AL nL cL, u10, u11, u12, u13, u14, u15, u16, u17, u18, u19, u20, u21, u22, u23, u24, u25, u26, u27, u28, u29, u30, u31, u32, u33, u34, u35, u36, u37, u38, u39, u40, u41, u42, u43, u44, u45, u46, u47, u48, u49, u50, u51, u52, u53, u54, u55, u56, u57, u58, u59, u60, u61, u62, u63, u64, u65, u66, u67, u68, u69, u70, u71, u72, u73, u74, u75, u76, u77, u78, u79, u80, u81, u82, u83, u84, u85, u86, u87, u88, u89, u90, u91, u92, u93, u94, u95, u96, u97, u98, u99, u100, u101, u102, u103, u104, u105, u106, v107, v108, v109, v110, u111, u112, u113, u114, u115], []⟩
set_option maxRecDepth 1000000 in
set_option maxHeartbeats 4000000 in
theorem ops_r18 {K : Act → World → Prop} {Q : Exit → Act → World → Prop} {u0 u1 u2 u3 u5 u6 u7 u10 u11 u12 u13 u14 u15 u16 u17 u18 u19 u20 u21 u22 u23 u24 u25 u26 u27 u28 u29 u30 u31 u32 u33 u34 u35 u36 u37 u38 u39 u40 u41 u42 u43 u44 u45 u46 u47 u48 u49 u50 u51 u52 u53 u54 u55 u56 u57 u58 u59 u60 u61 u62 u63 u64 u65 u66 u67 u68 u69 u70 u71 u72 u73 u74 u75 u76 u77 u78 u79 u80 u81 u82 u83 u84 u85 u86 u87 u88 u89 u90 u91 u92 u93 u94 u95 u96 u97 u98 u99 u100 u101 u102 u103 u104 u105 u106 u107 u108 u109 u110 u111 u112 u113 u114 u115 : Value} {base : Nat} {tk kd til oid cls : Int} {x1 : ByteArray} {s : Sil} {AS : Option Addr} {nS cS : Nat} {ls : List Lab} {AL : Option Addr} {nL cL : Nat} {wr : World} {w5 : World} (HS : Hid (Blk w5 (wr.heap.size + 1) 42 #[.int .i64 kd, .int .i64 s.id, .slice AS nS cS, .string s.ow, .string s.se, .int .i64 s.cl, .int .i64 s.fr, .int .i64 s.un, .int .i64 s.cp, .int .i64 s.hd, .int .i64 oid, .string x1, .int .i64 tk, .int .i64 til, .int .i64 cls, .int .i64 0, .string ⟨#[]⟩, .int .i64 0, .slice none 0 0, .int .i64 0, .int .i64 0, .string ⟨#[]⟩] ∧ Below wr.heap.size wr w5 ∧ Mats w5 base (.slice AS nS cS) s.ms ∧ Labs w5 base (.slice AL nL cL) ls)) (hszr : base ≤ wr.heap.size) (hK : ∀ a w', P18 u0 u1 u2 u3 u5 u6 u7 u10 u11 u12 u13 u14 u15 u16 u17 u18 u19 u20 u21 u22 u23 u24 u25 u26 u27 u28 u29 u30 u31 u32 u33 u34 u35 u36 u37 u38 u39 u40 u41 u42 u43 u44 u45 u46 u47 u48 u49 u50 u51 u52 u53 u54 u55 u56 u57 u58 u59 u60 u61 u62 u63 u64 u65 u66 u67 u68 u69 u70 u71 u72 u73 u74 u75 u76 u77 u78 u79 u80 u81 u82 u83 u84 u85 u86 u87 u88 u89 u90 u91 u92 u93 u94 u95 u96 u97 u98 u99 u100 u101 u102 u103 u104 u105 u106 u107 u108 u109 u110 u111 u112 u113 u114 u115 base tk kd til oid cls x1 s AS nS cS ls AL nL cL wr a w' → K a w') :
    Code.wp Try.prog (opsReg 18) (Exit.then K Q) ⟨#[u0, u1, u2, u3, .int .i64 tk, u5, u6, u7, .pointer (some ⟨wr.heap.size + 1, 0, none⟩), .slice AL nL cL, u10, u11, u12, u13, u14, u15, u16, u17, u18, u19, u20, u21, u22, u23, u24, u25, u26, u27, u28, u29, u30, u31, u32, u33, u34, u35, u36, u37, u38, u39, u40, u41, u42, u43, u44, u45, u46, u47, u48, u49, u50, u51, u52, u53, u54, u55, u56, u57, u58, u59, u60, u61, u62, u63, u64, u65, u66, u67, u68, u69, u70, u71, u72, u73, u74, u75, u76, u77, u78, u79, u80, u81, u82, u83, u84, u85, u86, u87, u88, u89, u90, u91, u92, u93, u94, u95, u96, u97, u98, u99, u100, u101, u102, u103, u104, u105, u106, u107, u108, u109, u110, u111, u112, u113, u114, u115], []⟩ w5 := by
  conv => arg 2; whnf
  have HK := Lib.hid hK
  clear hK
  have hz5 := HS.out.1.ty.lt
  obtain ⟨d0, d1, d2, d3, d4, d5, d6, d7, d8, d9, d10, d11, d12, d13, d14, d15, d16, d17, d18, d19, d20, d21⟩ := HS.out.1.twentytwo
  have df := HS.out.1.frozen
  go_wp2_with fail
  refine HK.out _ _ ?_
  unfold P18
  (repeat apply Exists.intro)
  refine ⟨?_, rfl⟩
  exact ⟨blk_set7 HS.out.1 _ _ _ _ _ _ _, HS.out.2.1.trans (below_set7 w5 (by omega) _ _ _ _ _ _ _), HS.out.2.2.1.keep (fr_set7 (T := [42]) HS.out.1.ty (by decide) (by omega) _ _ _ _ _ _ _) (by decide), HS.out.2.2.2.keep (fr_set7 (T := [42]) HS.out.1.ty (by decide) (by omega) _ _ _ _ _ _ _) (by decide)⟩
end Go.Proofs.Ytoafpajibeejlaa
