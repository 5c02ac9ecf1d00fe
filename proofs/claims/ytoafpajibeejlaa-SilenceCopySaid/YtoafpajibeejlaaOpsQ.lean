/- The last statement of a round of the generator of operations: the append. -/
import Derived.Test.YtoafpajibeejlaaOpsP
import Derived.Deep.WholeRow
set_option linter.unusedVariables false
set_option linter.unusedSimpArgs false
namespace Go.Proofs.Ytoafpajibeejlaa
open Go.RowKit

def OApp (w W9 : World) (k : Nat) (lo : List OpR) (sv : Value) (o : OpR) (v : Value) (w9 : World) : Prop := w9.ownsRow w.heap.size 42 22 v (k + 1) (lo.flatMap opCells ++ opCells o) ∧ ∃ o1 : Obj, (W9.alloc o1).grownBy w9 sv.ownBlock
def P19 (u0 u1 u2 u4 u5 u6 u7 u9 u10 u11 u12 u13 u14 u15 u16 u17 u18 u19 u20 u21 u22 u23 u24 u25 u26 u27 u28 u29 u30 u31 u32 u33 u34 u35 u36 u37 u38 u39 u40 u41 u42 u43 u44 u45 u46 u47 u48 u49 u50 u51 u52 u53 u54 u55 u56 u57 u58 u59 u60 u61 u62 u63 u64 u65 u66 u67 u68 u69 u70 u71 u72 u73 u74 u75 u76 u77 u78 u79 u80 u81 u82 u83 u84 u85 u86 u87 u88 u89 u90 u91 u92 u93 u94 u95 u96 u97 u98 u99 u100 u101 u102 u103 u104 u105 u106 u107 u108 u109 u110 u111 u112 u113 u114 u115 : Value) (sv : Value) (g k : Nat) (tk kd til oid cls : Int) (x1 : ByteArray) (s : Sil) (AS : Option Addr) (nS cS : Nat) (ls : List Lab) (AL : Option Addr) (nL cL : Nat) (lo : List OpR) (w W9 : World) (a : Act) (w' : World) : Prop := ∃ v3 v111 v112 v113 v114 : Value, OApp w W9 k lo sv (⟨kd, s, .slice AS nS cS, oid, x1, tk, til, cls, .slice AL nL cL, ls⟩ : OpR) v3 w' ∧ a = ⟨#[u0, u1, u2, v3, u4, u5, u6, u7, .pointer (some ⟨g, 0, none⟩), u9, u10, u11, u12, u13, u14, u15, u16, u17, u18, u19, u20, u21, u22, u23, u24, u25, u26, u27, u28, u29, u30, u31, u32, u33, u34, u35, u36, u37, u38, u39, u40, u41, u42, u43, u44, u45, u46, u47, u48, u49, u50, u51, u52, u53, u54, u55, u56, u57, u58, u59, u60, u61, u62, u63, u64, u65, u66, u67, u68, u69, u70, u71, u72, u73, u74, u75, u76, u77, u78, u79, u80, u81, u82, u83, u84, u85, u86, u87, u88, u89, u90, u91, u92, u93, u94, u95, u96, u97, u98, u99, u100, u101, u102, u103, u104, u105, u106, u107, u108, u109, u110, v111, v112, v113, v114, u115], []⟩
set_option maxRecDepth 1000000 in
set_option maxHeartbeats 400000 in
theorem ops_r19 {Q : Exit → Act → World → Prop} {u0 u1 u2 u4 u5 u6 u7 u9 u10 u11 u12 u13 u14 u15 u16 u17 u18 u19 u20 u21 u22 u23 u24 u25 u26 u27 u28 u29 u30 u31 u32 u33 u34 u35 u36 u37 u38 u39 u40 u41 u42 u43 u44 u45 u46 u47 u48 u49 u50 u51 u52 u53 u54 u55 u56 u57 u58 u59 u60 u61 u62 u63 u64 u65 u66 u67 u68 u69 u70 u71 u72 u73 u74 u75 u76 u77 u78 u79 u80 u81 u82 u83 u84 u85 u86 u87 u88 u89 u90 u91 u92 u93 u94 u95 u96 u97 u98 u99 u100 u101 u102 u103 u104 u105 u106 u107 u108 u109 u110 u111 u112 u113 u114 u115 : Value} {sv : Value} {g k : Nat} {tk kd til oid cls : Int} {x1 : ByteArray} {s : Sil} {AS : Option Addr} {nS cS : Nat} {ls : List Lab} {AL : Option Addr} {nL cL : Nat} {lo : List OpR} {w W9 : World} (HS : Hid (Blk W9 g 42 #[.int .i64 kd, .int .i64 s.id, .slice AS nS cS, .string s.ow, .string s.se, .int .i64 s.cl, .int .i64 s.fr, .int .i64 s.un, .int .i64 s.cp, .int .i64 s.hd, .int .i64 oid, .string x1, .int .i64 tk, .int .i64 til, .int .i64 cls, .int .i64 0, .string ⟨#[114]⟩, .int .i64 1, .slice AL nL cL, .int .i64 tk, .int .i64 0, .string ⟨#[]⟩] ∧ W9.ownsRow w.heap.size 42 22 sv k (lo.flatMap opCells))) (hk14 : k < 14) (hsz : w.heap.size ≤ W9.heap.size) (hK : ∀ a w', P19 u0 u1 u2 u4 u5 u6 u7 u9 u10 u11 u12 u13 u14 u15 u16 u17 u18 u19 u20 u21 u22 u23 u24 u25 u26 u27 u28 u29 u30 u31 u32 u33 u34 u35 u36 u37 u38 u39 u40 u41 u42 u43 u44 u45 u46 u47 u48 u49 u50 u51 u52 u53 u54 u55 u56 u57 u58 u59 u60 u61 u62 u63 u64 u65 u66 u67 u68 u69 u70 u71 u72 u73 u74 u75 u76 u77 u78 u79 u80 u81 u82 u83 u84 u85 u86 u87 u88 u89 u90 u91 u92 u93 u94 u95 u96 u97 u98 u99 u100 u101 u102 u103 u104 u105 u106 u107 u108 u109 u110 u111 u112 u113 u114 u115 sv g k tk kd til oid cls x1 s AS nS cS ls AL nL cL lo w W9 a w' → Q .normal a w') :
    Code.wp Try.prog (opsReg 19) Q ⟨#[u0, u1, u2, sv, u4, u5, u6, u7, .pointer (some ⟨g, 0, none⟩), u9, u10, u11, u12, u13, u14, u15, u16, u17, u18, u19, u20, u21, u22, u23, u24, u25, u26, u27, u28, u29, u30, u31, u32, u33, u34, u35, u36, u37, u38, u39, u40, u41, u42, u43, u44, u45, u46, u47, u48, u49, u50, u51, u52, u53, u54, u55, u56, u57, u58, u59, u60, u61, u62, u63, u64, u65, u66, u67, u68, u69, u70, u71, u72, u73, u74, u75, u76, u77, u78, u79, u80, u81, u82, u83, u84, u85, u86, u87, u88, u89, u90, u91, u92, u93, u94, u95, u96, u97, u98, u99, u100, u101, u102, u103, u104, u105, u106, u107, u108, u109, u110, u111, u112, u113, u114, u115], []⟩ W9 := by
  conv => arg 2; whnf
  have HK := Lib.hid hK
  clear hK
  have HI := Lib.hid (info_parts opInfo)
  go_wp2_with (first
    | (refine wpList_load_row rfl 42 (.tmp 8) rfl g rfl 42 _ (0, 0) _ HS.out.1 Try.underlying42 rfl (by kernel_rfl) ?_)
    | (at_builtin
       obtain ⟨i0, hi, hzz0, hzz1, hzz2⟩ := HI.out
       refine wpList_append_own_at _ rfl _ _ 39 rfl w.heap.size 42 i0 _ 22 248 Try.underlying39 hi hzz0 hzz1 hzz2 rfl (by decide) _ k (lo.flatMap opCells) rfl (by exact HS.out.2.alloc _) ⟨W9.heap.size, 0, none⟩ 1 1 (opCells (⟨kd, s, .slice AS nS cS, oid, x1, tk, til, cls, .slice AL nL cL, ls⟩ : OpR)) rfl rfl (cells22 rfl _ _ _ _ _ _ _ _ _ _ _ _ _ _ _ _ _ _ _ _ _ _ _) (op_one _ rfl rfl) (by simp only [maxLen]; omega) (by omega) (by simp; omega) ?_
       intro v' w9 hown9 hg9 _ hat9
       have HO := Lib.hid (And.intro hown9 hg9)
       clear hown9 hg9 hat9))
  refine HK.out _ _ ?_
  unfold P19
  (repeat apply Exists.intro)
  refine ⟨?_, rfl⟩
  exact ⟨HO.out.1, _, HO.out.2⟩
end Go.Proofs.Ytoafpajibeejlaa
