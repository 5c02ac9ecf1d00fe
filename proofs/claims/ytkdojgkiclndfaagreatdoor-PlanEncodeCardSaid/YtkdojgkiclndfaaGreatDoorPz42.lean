/- Contracts, packed: Bm Jr Uq Bh Be. -/
import Derived.Test.YtkdojgkiclndfaaGreatDoorPz27
import Derived.Test.YtkdojgkiclndfaaGreatDoorPz35
import Derived.Test.YtkdojgkiclndfaaGreatDoorPz39
import Derived.Test.YtkdojgkiclndfaaGreatDoorPz41
import Derived.Lib.ConvBytes
import Derived.Deep.RegionHeld3
import Derived.Laws.BytesArg
set_option linter.unusedVariables false
set_option linter.unusedSimpArgs false
namespace Go.Proofs.YtkdojgkiclndfaaGreatDoor
section
open Go.RowKit
theorem u8L_app (a b : List Nat) : u8L (a ++ b) = u8L a ++ u8L b := by unfold u8L; rw [List.map_append]
theorem own_bkB {w : World} {B : Nat} {v : Value} {l : List Nat} (h : OwnB w B v l) (k : Nat) (hk : v.ownBlock = some k) : B ≤ k := by
 rcases h.2 with ⟨rfl, _⟩ | ⟨g', cap, cur, rfl, hb, _⟩
 ·simp [Value.ownBlock] at hk
 ·simp [Value.ownBlock] at hk; omega
theorem OwnB.nil (w : World) (B : Nat) : OwnB w B (.slice none 0 0) [] := World.ownsRow_nil _ _ _ _
theorem OwnB.app {w' : World} {B : Nat} {v : Value} {l m : List Nat} (h : w'.ownsRow B 5 1 v (l.length + m.length) (u8L l ++ u8L m)) : OwnB w' B v (l ++ m) := by
 unfold OwnB
 rw [List.length_append, u8L_app]
 exact h
theorem OwnB.cells {w : World} {g n : Nat} {l : List Nat} (h : SqB w g n l) : ∀ j u, (u8L l)[j]? = some u → w.cell? ((⟨g, n, none⟩ : Addr).add j) = some u := fun j u hu => by
 unfold u8L at hu
 rw [List.getElem?_map] at hu
 obtain ⟨x, hx, rfl⟩ := Option.map_eq_some_iff.1 hu
 rw [addr_addU]
 exact h.at_ j x hx
theorem u8L_one (l : List Nat) : ∀ u ∈ u8L l, u.oneCell' = true := fun u hu => by
 unfold u8L at hu
 obtain ⟨x, -, rfl⟩ := List.mem_map.1 hu
 rfl
set_option maxHeartbeats 2000000 in
set_option maxRecDepth 100000 in
theorem refuint_any (n : Nat) (w : World) (hn : n < 18446744073709551616) : Calls Tryz.prog 88 #[.int .u64 n] w (RetSq (uvN n) w) := by
 obtain ⟨r, HR⟩ : ∃ r, Box ([] ++ uvN n = r) := ⟨_, ⟨rfl⟩⟩
 have HR0 : Box (uvN n = r) := ⟨by have := HR.out; simpa using this⟩
 rw [HR0.out]
 have hnl : r.length ≤ 10 := by rw [← HR0.out]; exact uvN_len10 hn
 obtain ⟨j0, hj, hy0, hy1, hy2⟩ := info_parts byInfo
 have HJ := Box.mk (And.intro hj (And.intro hy0 (And.intro hy1 hy2)))
 clear hj hy0 hy1 hy2 HR0
 go_enter Tryz.func88, Tryz.ntmps88
 go_wp2_with fail
 go_loopw [0, 3] (fun z o wr => ∃ (m : Nat) (l' : List Nat), m < 18446744073709551616 ∧ z = .int .u64 (m : Nat) ∧ Box (l' ++ uvN m = r) ∧ Box (OwnB wr w.heap.size o l' ∧ Below w.heap.size w wr)) (fun z _ _ => (intOf z).toNat)
 case atStart => exact ⟨n, [], hn, rfl, HR, ⟨⟨OwnB.nil _ _, Below.refl _ _⟩⟩⟩
 case round =>
  clear HR
  obtain ⟨m, l', hm, rfl, HR, HO⟩ := hrel
  obtain ⟨A', c', hv'⟩ := own_form HO.out.1
  subst hv'
  have hlen : l'.length ≤ 10 := by have := congrArg List.length HR.out; simp at this; omega
  have hzB := HO.out.2.size
  by_cases hb : m < 128
  ·have hm2 : ¬ (127 : Int) < (m : Int) := by omega
   have e1 : IntKind.u8.wrap (m : Int) = (m : Int) := by rw [IntKind.wrap_u8]; omega
   have HU : Box (l' ++ [m] = r) := ⟨by rw [← HR.out, uvN_small hb]⟩
   go_wp2_with (at_builtin; refine wpList_append_own _ rfl _ _ 39 rfl w.heap.size 5 j0 _ 1 1 Tryz.underlying39 HJ.out.1 HJ.out.2.1 HJ.out.2.2.1 HJ.out.2.2.2 rfl (by decide) (.slice A' l'.length c') l'.length (u8L l') rfl (by exact World.ownsRow.alloc HO.out.1 _) ⟨wr.heap.size, 0, none⟩ 1 1 (u8L [m]) rfl rfl (cells1b _ _ _) (u8L_one _) (by unfold maxLen; omega) (by omega) (by simp; omega) ?_; intro v9 w9 hown9 hgr9 hnil9)
   have hbel9 : Below w.heap.size w w9 := HO.out.2.trans (((bel1 wr _).mono hzB).grown hgr9 (by simp; omega) (fun k hk => own_bkB HO.out.1 k hk))
   have HP9 : Box (OwnB w9 w.heap.size v9 r ∧ Below w.heap.size w w9) := ⟨⟨by rw [← HU.out]; exact OwnB.app hown9, hbel9⟩⟩
   clear hown9 hgr9 hnil9 hbel9
   obtain ⟨A9, c9, hv9⟩ := own_form HP9.out.1
   subst hv9
   go_wp2_with fail
   go_ret
   exact ⟨_, rfl, HP9.out⟩
  ·have hm2 : (127 : Int) < (m : Int) := by omega
   have e0 : IntKind.u64.wrap (128 + (m : Int) % 128) = ((m % 128 + 128 : Nat) : Int) := by rw [IntKind.wrap_u64]; omega
   have e1 : IntKind.u8.wrap ((m % 128 + 128 : Nat) : Int) = ((m % 128 + 128 : Nat) : Int) := by rw [IntKind.wrap_u8]; omega
   have e2 : IntKind.u64.wrap ((m : Int) / 128) = ((m / 128 : Nat) : Int) := by rw [IntKind.wrap_u64]; omega
   have HU : Box ((l' ++ [m % 128 + 128]) ++ uvN (m / 128) = r) := ⟨by rw [← HR.out, uvN_big hb]; simp⟩
   go_wp2_with (at_builtin; refine wpList_append_own _ rfl _ _ 39 rfl w.heap.size 5 j0 _ 1 1 Tryz.underlying39 HJ.out.1 HJ.out.2.1 HJ.out.2.2.1 HJ.out.2.2.2 rfl (by decide) (.slice A' l'.length c') l'.length (u8L l') rfl (by exact World.ownsRow.alloc HO.out.1 _) ⟨wr.heap.size, 0, none⟩ 1 1 (u8L [m % 128 + 128]) rfl rfl (cells1b _ _ _) (u8L_one _) (by unfold maxLen; omega) (by omega) (by simp; omega) ?_; intro v9 w9 hown9 hgr9 hnil9)
   have hbel9 : Below w.heap.size w w9 := HO.out.2.trans (((bel1 wr _).mono hzB).grown hgr9 (by simp; omega) (fun k hk => own_bkB HO.out.1 k hk))
   have HP9 : Box (OwnB w9 w.heap.size v9 (l' ++ [m % 128 + 128]) ∧ Below w.heap.size w w9) := ⟨⟨OwnB.app hown9, hbel9⟩⟩
   clear hown9 hgr9 hnil9 hbel9
   obtain ⟨A9, c9, hv9⟩ := own_form HP9.out.1
   subst hv9
   go_wp2_with fail
   go_roundw
   case rel => exact ⟨m / 128, _, by omega, by first | rfl | simp, HU, HP9⟩
   case measure => simp [intOf]; omega
theorem OwnB.base {w : World} {B C : Nat} {v : Value} {l : List Nat} (h : OwnB w B v l) (hc : C ≤ B) : OwnB w C v l := by
 refine ⟨h.1, ?_⟩
 rcases h.2 with h0 | ⟨g', cap, cur, rfl, hb, rest⟩
 ·exact .inl h0
 ·exact .inr ⟨g', cap, cur, rfl, Nat.le_trans hc hb, rest⟩
/-- a row has grown behind calls -/
theorem wr_app {w wr w1 w9 : World} {A : Option Addr} {n c : Nat} {v9 : Value} {L M : List Nat} (h : OwnB wr w.heap.size (.slice A n c) L ∧ Below w.heap.size w wr) (hb : Below wr.heap.size wr w1)
  (hown9 : w9.ownsRow w.heap.size 5 1 v9 (L.length + M.length) (u8L L ++ u8L M)) (hgr : w1.grownBy w9 (Value.slice A n c).ownBlock) : OwnB w9 w.heap.size v9 (L ++ M) ∧ Below w.heap.size w w9 :=
 ⟨OwnB.app hown9, (bthen h.2 hb (Nat.le_refl _)).trans (((Below.refl _ w1).mono (Nat.le_trans h.2.size hb.size)).grown hgr (Nat.le_trans h.2.size hb.size) (fun k hk => own_bkB h.1 k hk))⟩
set_option maxHeartbeats 1000000 in
theorem rzig_any (n : Int) (w : World) (n1 : -9223372036854775808 ≤ n) (n2 : n ≤ 9223372036854775807) : Calls Tryz.prog 89 #[.int .i64 n] w (RetB (.int .u64 (zig n : Nat)) w) := by
 obtain ⟨q, HQ⟩ : ∃ q : Int, Box (((zig n : Nat) : Int) = q) := ⟨_, ⟨rfl⟩⟩
 rw [HQ.out]
 by_cases hn : n < 0
 ·have e0 : q = 2 * (-n - 1) + 1 := by have := HQ.out; unfold zig at this; rw [if_neg (by omega)] at this; omega
  have e1 : IntKind.i64.wrap (n + 1) = n + 1 := W64_in (by omega) (by omega)
  have e2 : IntKind.i64.wrap (-(n + 1)) = -n - 1 := (W64_in (x := -(n + 1)) (by omega) (by omega)).trans (by omega)
  have e3 : IntKind.u64.wrap (-n - 1) = -n - 1 := by rw [IntKind.wrap_u64]; omega
  have e4 : IntKind.u64.wrap (2 * (-n - 1)) = 2 * (-n - 1) := by rw [IntKind.wrap_u64]; omega
  have e5 : IntKind.u64.wrap (2 * (-n - 1) + 1) = q := by rw [IntKind.wrap_u64]; omega
  clear e0 HQ
  go_enter Tryz.func89, Tryz.ntmps89
  go_wp2_with fail
  go_ret
  exact ⟨rfl, Below.refl _ _⟩
 ·have e0 : q = 2 * n := by have := HQ.out; unfold zig at this; rw [if_pos (by omega)] at this; omega
  have e1 : IntKind.u64.wrap n = n := by rw [IntKind.wrap_u64]; omega
  have e2 : IntKind.u64.wrap (2 * n) = q := by rw [IntKind.wrap_u64]; omega
  clear e0 HQ
  go_enter Tryz.func89, Tryz.ntmps89
  go_wp2_with fail
  go_ret
  exact ⟨rfl, Below.refl _ _⟩
set_option maxHeartbeats 1000000 in
theorem refint_any (n : Int) (w : World) (n1 : -9223372036854775808 ≤ n) (n2 : n ≤ 9223372036854775807) : Calls Tryz.prog 55 #[.int .i64 n] w (RetSq (encI n) w) := by
 have CZ := Box.mk (rzig_any n w n1 n2)
 have hz := Box.mk (zig_lt n1 n2)
 unfold encI
 clear n1 n2
 go_enter Tryz.func55, Tryz.ntmps55
 go_wp2_with fail
 refine (CZ.out).mono ?_
 rintro e1 w1 ⟨rfl, hb1⟩
 have HB1 := Box.mk hb1
 clear hb1 CZ
 go_wp2_with fail
 refine (refuint_any (zig n) w1 hz.out).mono ?_
 rintro e2 w2 ⟨v, rfl, hO, hb2⟩
 have HO : Box (OwnB w2 w.heap.size v (uvN (zig n)) ∧ Below w.heap.size w w2) := ⟨hO.base HB1.out.size, bthen HB1.out hb2 (Nat.le_refl _)⟩
 obtain ⟨A, c, rfl⟩ := own_form HO.out.1
 clear hO hb2 HB1
 go_wp2_with fail
 go_ret
 exact ⟨_, rfl, HO.out⟩
set_option maxHeartbeats 1000000 in
set_option maxRecDepth 100000 in
theorem refraw_any (g o n c : Nat) (l : List Nat) (w : World) (hn : n = l.length) (h : SqB w g o l) (hm : n ≤ 1000000) : Calls Tryz.prog 56 #[.slice (some ⟨g, o, none⟩) n c] w (RetSq (uvN l.length ++ l) w) := by
 obtain ⟨j0, hj, hy0, hy1, hy2⟩ := info_parts byInfo
 have HJ := Box.mk (And.intro hj (And.intro hy0 (And.intro hy1 hy2)))
 have H0 := Box.mk h
 have e1 : IntKind.u64.wrap (n : Int) = (n : Int) := by rw [IntKind.wrap_u64]; omega
 have CU := Box.mk (refuint_any n w (by omega))
 have hu : (uvN n).length ≤ 10 := uvN_len10 (by omega)
 rw [← hn]
 obtain ⟨u, HU⟩ : ∃ u, uvN n = u := ⟨_, rfl⟩
 rw [HU] at hu CU ⊢
 have HN := Box.mk hn
 clear h hj hy0 hy1 hy2 HU hn
 go_enter Tryz.func56, Tryz.ntmps56
 go_wp2_with fail
 refine (CU.out).mono ?_
 rintro e2 w2 ⟨v, rfl, hO, hb2⟩
 have HO : Box (OwnB w2 w.heap.size v u ∧ Below w.heap.size w w2) := ⟨hO, hb2⟩
 obtain ⟨A, c2, rfl⟩ := own_form HO.out.1
 have HS := Box.mk (H0.out.below hb2)
 have hz2 := hb2.size
 clear hO hb2 H0 CU
 go_wp2_with (at_builtin; refine wpList_append_own _ rfl _ _ 39 rfl w.heap.size 5 j0 _ 1 1 Tryz.underlying39 HJ.out.1 HJ.out.2.1 HJ.out.2.2.1 HJ.out.2.2.2 rfl (by decide) (.slice A u.length c2) u.length (u8L u) rfl (by exact HO.out.1) ⟨g, o, none⟩ n c (u8L l) rfl (by have := HN.out; rw [u8L_len]; omega) (OwnB.cells HS.out) (u8L_one _) (by unfold maxLen; omega) (by omega) (by omega) ?_; intro v9 w9 hown9 hgr9 hnil9)
 have HP9 : Box (OwnB w9 w.heap.size v9 (u ++ l) ∧ Below w.heap.size w w9) := ⟨by have e := HN.out; rw [e] at hown9; exact wr_app HO.out (Below.refl _ _) hown9 hgr9⟩
 clear hown9 hgr9 hnil9
 obtain ⟨A9, c9, hv9⟩ := own_form HP9.out.1
 subst hv9
 go_wp2_with fail
 go_ret
 exact ⟨_, rfl, HP9.out⟩
/-- a string's bytes, converted -/
theorem conv_sq (w : World) (e : TypeId) (s : ByteArray) : SqB (Lib.bytesWorld w e s) w.heap.size 0 (strB s) := by
 refine ⟨by rw [Lib.bytesWorld_size]; omega, fun k x hx => ?_⟩
 have hk : k < s.data.toList.length := by have := (List.getElem?_eq_some_iff.1 hx).1; unfold strB at this; simpa using this
 have hke : s.size = s.data.toList.length := by show s.data.size = _; simp
 have hk2 : k < s.size := by omega
 unfold strB at hx
 rw [List.getElem?_map, List.getElem?_eq_getElem hk] at hx
 rw [Nat.zero_add, Lib.bytesWorld_cell w e s k hk2]
 simp only [Option.map_some, Option.some.injEq] at hx
 rw [← hx]
 simp [List.getD, List.getElem?_eq_getElem hk]
end
section
open Go.RowKit FracM
end
section
open Go.RowKit FracM
theorem compileM_ok {t : Tree} (h : validE t = 0) : compileM t = (postT t, 0) := if_pos h
theorem compileM_no {t : Tree} (h : validE t ≠ 0) : compileM t = ([], validE t) := if_neg h
theorem blk10z {W : World} {g : Nat} {t : TypeId} {d : Nd} {mv bv : Value} (h : Blk W g t (insC d mv bv)) : (W.cell? ⟨g, 0, none⟩ = some (.int .i64 d.kind) ∧ W.cell? ⟨g, 1, none⟩ = some (.int .i64 d.fn) ∧ W.cell? ⟨g, 2, none⟩ = some (.int .i64 d.win) ∧ W.cell? ⟨g, 3, none⟩ = some (.int .i64 d.off) ∧ W.cell? ⟨g, 4, none⟩ = some (.int .i64 d.k) ∧ W.cell? ⟨g, 5, none⟩ = some (.int .i64 d.num) ∧ W.cell? ⟨g, 6, none⟩ = some (.int .i64 d.den) ∧ W.cell? ⟨g, 7, none⟩ = some (.string d.name) ∧ W.cell? ⟨g, 8, none⟩ = some (mv) ∧ W.cell? ⟨g, 9, none⟩ = some (bv)) := by
 unfold Blk at h
 refine ⟨?_, ?_, ?_, ?_, ?_, ?_, ?_, ?_, ?_, ?_⟩ <;> simp [World.cell?, h]
theorem InsAt.any {w : World} {P : Nat → Nat → Prop} {d : Nd} {mv bv : Value} (h : InsAt w P d mv bv) : InsAt w AnyP d mv bv := h.mono fun _ _ _ _ => trivial
/-- a plan that is compiled, with the error -/
def RetPlE (p : List Nd × Int) (P : Nat → Nat → Prop) (w : World) (e : Ending) (w' : World) : Prop := ∃ v, e = .returned (.tuple #[v, .int .i64 p.2]) ∧ PlW w' w.heap.size (fun b z => P b z ∧ b < w.heap.size) v p.1 ∧ Below w.heap.size w w'
set_option maxHeartbeats 4000000 in
set_option maxRecDepth 100000 in
theorem rcompile_any (t : Tree) (P : Nat → Nat → Prop) (w : World) (s : Sl) (hT : TreeAt w P t s) (hn : nds t ≤ 1000000) (hd : dep t ≤ 1000000) : Calls Tryz.prog 6 #[.agg (ndC t.d s.1 s.2.1 s.2.2)] w (RetPlE (compileM t) P w) := by
 obtain ⟨d, ks⟩ := t
 obtain ⟨mv, bv, kv⟩ := s
 obtain ⟨A1, c1, rfl, -⟩ := hT.nod.ms.form
 obtain ⟨A2, c2, rfl, -⟩ := hT.nod.bys.form
 obtain ⟨A3, c3, rfl, -⟩ := hT.nod.kform
 have HT := Box.mk hT
 have HN := Box.mk (And.intro hn hd)
 have HS0 : Box (Below w.heap.size w (w.alloc (.cells (ndC d (.slice A1 d.ms.length c1) (.slice A2 d.bys.length c2) (.slice A3 ks.length c3)) 33)) ∧ Blk (w.alloc (.cells (ndC d (.slice A1 d.ms.length c1) (.slice A2 d.bys.length c2) (.slice A3 ks.length c3)) 33)) w.heap.size 33 (ndC d (.slice A1 d.ms.length c1) (.slice A2 d.bys.length c2) (.slice A3 ks.length c3)) ∧ TreeAt (w.alloc (.cells (ndC d (.slice A1 d.ms.length c1) (.slice A2 d.bys.length c2) (.slice A3 ks.length c3)) 33)) P (.node d ks) (.slice A1 d.ms.length c1, .slice A2 d.bys.length c2, .slice A3 ks.length c3)) := ⟨bel1 _ _, Blk.new _ _ _, hT.belo (bel1 _ _)⟩
 obtain ⟨er, her⟩ : ∃ er, validE (.node d ks) = er := ⟨_, rfl⟩
 have HE := Box.mk her
 have HLT : Box (TreeAt w (fun b z => P b z ∧ b < w.heap.size) (.node d ks) (.slice A1 d.ms.length c1, .slice A2 d.bys.length c2, .slice A3 ks.length c3)) := ⟨hT.mono fun b z hb hp => ⟨hp, hb⟩⟩
 clear hT hn hd her
 simp only [Tree.d]
 go_enter Tryz.func6, Tryz.ntmps6
 go_upto_region 1 with (fail)
 generalize w.alloc (.cells (ndC d _ _ _) 33) = W at HS0 ⊢
 obtain ⟨k0, k1, k2, k3, k4, k5, k6, k7, k8, k9, k10⟩ := blk11z HS0.out.2.1
 have CV : Box (Calls Tryz.prog 21 #[.agg (ndC d (.slice A1 d.ms.length c1) (.slice A2 d.bys.length c2) (.slice A3 ks.length c3))] W (RetB (.int .i64 er) W)) := ⟨by rw [← HE.out]; exact rpvalid_any (.node d ks) P W (.slice A1 d.ms.length c1, .slice A2 d.bys.length c2, .slice A3 ks.length c3) HS0.out.2.2 HN.out.1 HN.out.2⟩
 by_cases h0 : er = 0
 ·subst h0
  go_wp2_with fail
  refine (CV.out).mono ?_
  rintro e1 w1 ⟨rfl, hb1⟩
  have HS1 : Box (Below w.heap.size w w1 ∧ Blk w1 w.heap.size 33 (ndC d (.slice A1 d.ms.length c1) (.slice A2 d.bys.length c2) (.slice A3 ks.length c3)) ∧ TreeAt w1 (fun b z => P b z ∧ b < w.heap.size) (.node d ks) (.slice A1 d.ms.length c1, .slice A2 d.bys.length c2, .slice A3 ks.length c3)) := ⟨bthen HS0.out.1 hb1 (Nat.le_refl _), HS0.out.2.1.below hb1, HLT.out.belo (bthen HS0.out.1 hb1 (Nat.le_refl _))⟩
  clear k0 k1 k2 k3 k4 k5 k6 k7 k8 k9 k10 CV hb1
  obtain ⟨k0, k1, k2, k3, k4, k5, k6, k7, k8, k9, k10⟩ := blk11z HS1.out.2.1
  have CP : Box (Calls Tryz.prog 22 #[.agg (ndC d (.slice A1 d.ms.length c1) (.slice A2 d.bys.length c2) (.slice A3 ks.length c3))] w1 (RetPl (postT (.node d ks)) (fun b z => P b z ∧ b < w.heap.size) w1)) := ⟨rpostfix_any (.node d ks) _ w1 (.slice A1 d.ms.length c1, .slice A2 d.bys.length c2, .slice A3 ks.length c3) HS1.out.2.2 HN.out.1⟩
  go_wp2_with fail
  with_reducible refine (CP.out).mono ?_
  rintro e2 w2 ⟨v2, rfl, hp2, hb2⟩
  have hz := HS1.out.1.size
  obtain ⟨A9, c9, rfl⟩ := hp2.form
  have HR : Box (PlW w2 w.heap.size (fun b z => P b z ∧ b < w.heap.size) (.slice A9 (postT (.node d ks)).length c9) (postT (.node d ks)) ∧ Below w.heap.size w w2) := ⟨(hp2.mono fun b z _ h => h.1).base hz, bthen HS1.out.1 hb2 (Nat.le_refl _)⟩
  clear hp2 hb2 k0 k1 k2 k3 k4 k5 k6 k7 k8 k9 k10 CP
  go_wp2_with fail
  go_ret2
  exact ⟨_, by rw [compileM_ok HE.out]; rfl, by rw [compileM_ok HE.out]; exact HR.out.1, HR.out.2⟩
 ·have h1 : (er != 0) = true := by simpa using h0
  have h2 : (er == 0) = false := by simpa using h0
  have H0 := Box.mk h0
  clear h0
  go_wp2_with fail
  refine (CV.out).mono ?_
  rintro e1 w1 ⟨rfl, hb1⟩
  have HS1 : Box (Below w.heap.size w w1) := ⟨bthen HS0.out.1 hb1 (Nat.le_refl _)⟩
  clear k0 k1 k2 k3 k4 k5 k6 k7 k8 k9 k10 CV hb1
  go_wp2_with fail
  go_ret2
  have HC : compileM (.node d ks) = ([], er) := by rw [compileM_no (by rw [HE.out]; exact H0.out), HE.out]
  exact ⟨_, by rw [HC]; rfl, by rw [HC]; exact PlW.nil _ _ _, HS1.out⟩
theorem PlanP.anyB {w w' : World} {P : Nat → Nat → Prop} {v : Value} {l : List Nd} (h : PlanP w P v l) (f : Below w.heap.size w w') : PlanP w' AnyP v l := ((h.mono (Q := fun b _ => b < w.heap.size) fun _ _ hb _ => hb).keep (Agree.of_lt f fun _ _ h => h)).mono fun _ _ _ _ => trivial
end
section
open Go.RowKit FracM
theorem u8L_at {w : World} {P : Nat → Nat → Prop} {A : Option Addr} {n c : Nat} {l : List Nat} (h : SeqP w P 1 (.slice A n c) l.length (u8L l)) {k x : Nat} (hx : l[k]? = some x) : ∃ b off, A = some ⟨b, off, none⟩ ∧ b < w.heap.size ∧ w.cell? ⟨b, off + k, none⟩ = some (.int .u8 (x : Int)) :=
 h.at1 k (.int .u8 (x : Int)) (by unfold u8L; rw [List.getElem?_map, hx]; rfl)
set_option maxHeartbeats 2000000 in
set_option maxRecDepth 100000 in
theorem sameBytes_any (A1 A2 : Option Addr) (c1 c2 : Nat) (P Q : Nat → Nat → Prop) (a b : List Nat) (w : World) (ha : SeqP w P 1 (.slice A1 a.length c1) a.length (u8L a)) (hb : SeqP w Q 1 (.slice A2 b.length c2) b.length (u8L b)) (hm : a.length ≤ 1000000000) (hm' : b.length ≤ 1000000000) :
  Calls Tryz.prog 20 #[.slice A1 a.length c1, .slice A2 b.length c2] w (RetB (.bool (decide (a = b))) w) := by
 have HA := Box.mk ha
 have HB := Box.mk hb
 clear ha hb
 by_cases hl : a.length = b.length
 ·have hne : ((a.length : Int) != (b.length : Int)) = false := by simp [hl]
  have HL := Box.mk hl
  clear hl
  go_enter Tryz.func20, Tryz.ntmps20
  go_wp2_with fail
  go_loopw [5] (fun v wr => ∃ k : Nat, k ≤ a.length ∧ v = .int .i64 (k : Nat) ∧ Box (Below w.heap.size w wr) ∧ Box (a.take k = b.take k)) (fun v _ => a.length - (intOf v).toNat)
  case atStart => exact ⟨0, by omega, rfl, ⟨Below.refl _ _⟩, ⟨rfl⟩⟩
  case round =>
   obtain ⟨k, hk, rfl, HBL, HT⟩ := hrel
   by_cases hlt : k < a.length
   ·have hlt2 : (k : Int) < (a.length : Int) := by omega
    have hlt3 : (k : Int) < (b.length : Int) := by have := HL.out; omega
    obtain ⟨x, hx⟩ : ∃ x, a[k]? = some x := ⟨a[k], List.getElem?_eq_getElem _⟩
    obtain ⟨y, hy⟩ : ∃ y, b[k]? = some y := ⟨b[k]'(by have := HL.out; omega), List.getElem?_eq_getElem _⟩
    obtain ⟨b1, off1, rfl, hb1, p1⟩ := u8L_at (HA.out.keep (Agree.of_below HBL.out)) hx
    obtain ⟨b2, off2, rfl, hb2, p2⟩ := u8L_at (HB.out.keep (Agree.of_below HBL.out)) hy
    have HXY := Box.mk (And.intro hx hy)
    clear hx hy
    by_cases hq : x = y
    ·subst hq
     have hq2 : ((x : Int) != (x : Int)) = false := by simp
     have HT2 : Box (a.take (k + 1) = b.take (k + 1)) := ⟨by rw [List.take_add_one, List.take_add_one, HXY.out.1, HXY.out.2, HT.out]⟩
     go_wp2_with fail
     first | go_region | skip
     all_goals
      go_wp2_with fail
      go_roundw
      case rel => exact ⟨k + 1, by omega, by go_num, ⟨by first | exact HBL.out | exact bdrew HBL.out 1⟩, HT2⟩
      case measure => simp [intOf]; omega
    ·have hq2 : ((x : Int) != (y : Int)) = true := by simp; omega
     have HN : Box (decide (a = b) = false) := ⟨decide_eq_false fun h => hq (by have h1 := HXY.out.1; rw [h, HXY.out.2] at h1; exact (Option.some.inj h1).symm)⟩
     go_wp2_with fail
     first | go_region | skip
     all_goals
      go_wp2_with fail
      go_ret
      exact ⟨ret_bool HN.out.symm, by first | exact HBL.out | exact bdrew HBL.out 1⟩
   ·have hlt2 : ¬ (k : Int) < (a.length : Int) := by omega
    have HE : Box (decide (a = b) = true) := ⟨decide_eq_true (by have h := HT.out; rw [List.take_of_length_le (by omega), List.take_of_length_le (by have := HL.out; omega)] at h; exact h)⟩
    go_wp2_with fail
    go_ret
    exact ⟨ret_bool HE.out.symm, HBL.out⟩
 ·have hne : ((a.length : Int) != (b.length : Int)) = true := by simp; omega
  have E : Box (decide (a = b) = false) := ⟨decide_eq_false fun h => hl (by rw [h])⟩
  go_enter Tryz.func20, Tryz.ntmps20
  go_wp2_with fail
  go_ret
  exact ⟨ret_bool E.out.symm, Below.refl _ _⟩
end
section
open Go.RowKit
end
end Go.Proofs.YtkdojgkiclndfaaGreatDoor
