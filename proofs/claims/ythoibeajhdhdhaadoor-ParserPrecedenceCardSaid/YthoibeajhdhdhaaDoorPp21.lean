/- Contracts, packed: Qp Qd Zb Zc. -/
import Derived.Test.YthoibeajhdhdhaaDoorPp16
import Derived.Test.YthoibeajhdhdhaaDoorPp17
import Derived.Test.YthoibeajhdhdhaaDoorPp20
import Derived.Laws.Concat
set_option linter.unusedVariables false
set_option linter.unusedSimpArgs false
namespace Go.Proofs.YthoibeajhdhdhaaDoor
section
open Go.RowKit FracM

theorem cells1 (w : World) (t : TypeId) (v0 : Value) : ∀ j u, [v0][j]? = some u → (w.alloc (.cells #[v0] t)).cell? ((⟨w.heap.size, 0, none⟩ : Addr).add j) = some u := by
  intro j u hj
  match j, hj with
  | 0, hj => simp at hj; subst hj; simp [Addr.add]
  | j + 1, hj => simp at hj
end
section
open Go.RowKit FracM

theorem TreeAt.low {w : World} {P : Nat → Nat → Prop} {t : Tree} {s : Sl} (h : TreeAt w P t s) : TreeAt w (fun b _ => b < w.heap.size) t s := h.mono fun _ _ hb _ => hb
theorem Only.low {g B : Nat} {w w' : World} (h : Only g w w') (hB : B ≤ g) (hw : B ≤ w.heap.size) : Below B w w' := h.below hB hw
set_option maxHeartbeats 1000000 in
theorem fits_any (t : Tree) (P : Nat → Nat → Prop) (w : World) (s : Sl) (hT : TreeAt w P t s) : Calls Tryd.prog 25 #[.agg (ndC t.d s.1 s.2.1 s.2.2)] w (RetB (.bool (fitB t)) w) := by
  have HT := Box.mk hT.low
  clear hT
  obtain ⟨mv, bv, kv⟩ := s
  obtain ⟨q, hq⟩ : ∃ q, q = cnt t 1 200 := ⟨_, rfl⟩
  have HQ := Box.mk hq
  have HE := Box.mk (fit_eq t)
  go_enter Tryd.func25, Tryd.ntmps25
  go_wp2_with fail
  refine (count_any t _ _ (w.heap.size + 1) _ _ (mv, bv, kv) (HT.out.belo (bel2 _ _ _)) (fun b _ hb => by omega) (Blk.newAt _ _ (by simp)) (by omega) (by omega) (by omega) (by omega)).mono ?_
  rintro e w1 ⟨rfl, h1, h3⟩
  rw [← hq] at h1
  have HB : Box (Below w.heap.size w w1) := ⟨(bel2 _ _ _).trans (h3.below (by omega) (by simp; omega))⟩
  have c1 := h1.c1
  clear h1 h3 hq
  go_wp2_with fail
  go_ret
  exact ⟨ret_bool (by rw [← HE.out, ← HQ.out]), HB.out⟩
theorem len0 {α : Type} (l : List α) : (((l.length : Nat) : Int) == 0) = l.isEmpty := by cases l <;> simp <;> omega
set_option maxHeartbeats 4000000 in
set_option maxRecDepth 100000 in
theorem shaped_any (d : Nd) (ks : List Tree) (P : Nat → Nat → Prop) (w : World) (mv bv kv : Value) (hT : TreeAt w P (.node d ks) (mv, bv, kv)) : Calls Tryd.prog 45 #[.agg (ndC d mv bv kv)] w (RetB (.bool (shapedB d ks.length)) w) := by
  have HN := Lib.hid (N1.start hT)
  obtain ⟨A1, n1, rfl, l1⟩ := hT.nod.ms.form
  obtain ⟨A2, n2, rfl, l2⟩ := hT.nod.bys.form
  obtain ⟨A3, n3, rfl, l3⟩ := hT.nod.kform
  have HO := Box.mk hT.nod.ok
  clear hT
  go_enter Tryd.func45, Tryd.ntmps45
  go_upto_region 1 with (fail)
  generalize w.alloc (.cells (ndC d _ _ _) 29) = W at HN ⊢
  obtain ⟨c0, c1, c2, c3, c4, c5, c6, c7, c8, c9, c10⟩ := HN.out.c
  simp only [Nat.zero_add] at c1 c2 c3 c4 c5 c6 c7 c8 c9 c10
  go_cut [3] (fun x wx => ∃ ns : Bool, x = .bool ns ∧ W = wx ∧ Box (ns = noSelB d))
  case first =>
    go_wp2_with fail
    all_goals
      go_meet
      refine ⟨_, rfl, rfl, ⟨?_⟩⟩
      unfold noSelB
      simp_all [len0]
  case rest =>
    obtain ⟨ns, rfl, rfl, HS⟩ := hcut
    go_upto_region 2 with (fail)
    go_cut [4] (fun x wx => ∃ nn : Bool, x = .bool nn ∧ W = wx ∧ Box (nn = noNumB d))
    case first =>
      go_wp2_with fail
      all_goals
        go_meet
        refine ⟨_, rfl, rfl, ⟨?_⟩⟩
        unfold noNumB
        simp_all
    case rest =>
      obtain ⟨nn, rfl, rfl, HU⟩ := hcut
      go_upto_region 3 with (fail)
      obtain ⟨⟨-, -, -, -, -, ⟨b1, b2⟩, ⟨b3, b4⟩⟩, -, -, -⟩ := HO.out
      go_wp2_with (go_at_call 48; refine (fvalid_any _ _ _ b1 b2 b3 b4).mono ?_; rintro e w' ⟨rfl, hb1⟩; have HB1 := Lib.hid (HN.out.next hb1); clear hb1)
      all_goals
        go_ret
        refine ⟨ret_bool ?_, by first | exact HN.out.below | exact HB1.out.below⟩
        unfold shapedB
        simp only [← HS.out, ← HU.out]
        simp_all [len0]
        try (intros; omega)
set_option maxHeartbeats 4000000 in
set_option maxRecDepth 100000 in
theorem ranged_any (d : Nd) (ks : List Tree) (P : Nat → Nat → Prop) (w : World) (mv bv kv : Value) (hT : TreeAt w P (.node d ks) (mv, bv, kv)) : Calls Tryd.prog 47 #[.agg (ndC d mv bv kv)] w (RetB (.bool (rangedB d)) w) := by
  have HN := Lib.hid (N1.start hT)
  have HO := Box.mk hT.nod.ok
  clear hT
  go_enter Tryd.func47, Tryd.ntmps47
  go_upto_region 1 with (fail)
  generalize w.alloc (.cells (ndC d _ _ _) 29) = W at HN ⊢
  obtain ⟨c0, c1, c2, c3, c4, c5, c6, c7, c8, c9, c10⟩ := HN.out.c
  simp only [Nat.zero_add] at c1 c2 c3 c4 c5 c6 c7 c8 c9 c10
  go_wp2_with fail
  all_goals
    go_ret
    refine ⟨ret_bool ?_, HN.out.below⟩
    unfold rangedB
    simp_all
    try (intros; omega)
end
section
open Go.RowKit

def bs (l : List UInt8) : ByteArray := ⟨l.toArray⟩
end
section
open Go.RowKit
end
end Go.Proofs.YthoibeajhdhdhaaDoor
