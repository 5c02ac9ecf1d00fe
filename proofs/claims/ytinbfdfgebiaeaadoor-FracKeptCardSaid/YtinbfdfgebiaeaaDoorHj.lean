/- mix and groups of package hash. -/
import Derived.RangeFuncNested
import Derived.RangeFuncBound
import Derived.RangeFuncCalls
import Derived.RangeFuncLeaves
import Derived.RangeFuncFrom
import Derived.RangeFuncKeeps
import Derived.Shelf.Abstract
import Derived.Shelf.RegionOpen
import Derived.WalkKit
import Derived.OwnWalkIn
import Derived.TacticsInMore
import Derived.LoopNIn
import Derived.LoopIn
import Derived.Test.YtinbfdfgebiaeaaDoorHa
set_option linter.unusedVariables false
set_option linter.unusedSimpArgs false
namespace Go.Proofs.YtinbfdfgebiaeaaDoor
open Go.RowKit Go.Shelf

set_option maxRecDepth 100000 in
theorem mix_any (s x : Nat) (w : World) (hs : s < two64) (hx : x < two64) : Calls Tryd.prog 28 #[.int .u64 (s : Int), .int .u64 (x : Int)] w fun e w' => e = .returned (.int .u64 (mixN s x : Nat)) ∧ w' = w := by
  have h1 : bits .xor .u64 (s : Int) (x : Int) = ((s ^^^ x : Nat) : Int) := bits_xor_u64_nat s x hs hx
  have h2 : IntKind.u64.wrap (((s ^^^ x : Nat) : Int) * 11400714819323198485) = (((s ^^^ x) * fac % two64 : Nat) : Int) := by
    rw [IntKind.wrap_u64]
    generalize s ^^^ x = t
    rw [show ((t * fac % two64 : Nat) : Int) = (t : Int) * (fac : Int) % (two64 : Int) by rw [Int.natCast_emod, Int.natCast_mul]]
    rfl
  have h3 : bits .xor .u64 (((s ^^^ x) * fac % two64 : Nat) : Int) ((((s ^^^ x) * fac % two64 : Nat) : Int) / 4294967296) = (mixN s x : Nat) := xorShift_u64 _ 4294967296 (Nat.mod_lt _ (by decide))
  generalize hy : (s ^^^ x) * fac % two64 = y at h2 h3
  generalize hz : mixN s x = z at h3 ⊢
  generalize ht : s ^^^ x = t at h1 h2
  go_enter Tryd.func28, Tryd.ntmps28
  clear hy hz ht hs hx
  go_wp2_with fail
  go_ret
  exact ⟨rfl, rfl⟩
attribute [local go_sem] Oper.semAt_some
abbrev fracS : ByteArray := ⟨#[102, 114, 97, 99]⟩
def wv (k : Nat) : Nat := match k with | 0 => 0 | 1 => 102 | 2 => 29286 | 3 => 6386278 | _ => 1667330662
set_option maxHeartbeats 1000000 in
theorem groups_any (s : ByteArray) (w : World) : Calls Tryd.prog 27 #[.string s] w fun e w' => e = .returned (.func (.func 43) #[] #[.pointer (some ⟨w.heap.size, 0, none⟩)]) ∧ w' = w.alloc (.cells #[.string s] 9) := by
  go_enter Tryd.func27, Tryd.ntmps27
  go_wp2_with fail
  go_ret
  exact ⟨rfl, rfl⟩
set_option maxRecDepth 100000 in
set_option maxHeartbeats 2000000 in
theorem groups1_in (n : Nat) (hn : 1 ≤ n) (l Bn : Nat) (J Jx : List Unit → World → Prop)
    (hY : ∀ pre (x : Unit) W, J pre W → pre.length < 1 → YieldAt Fence.wide (n - 1) Tryd.prog l #[.int .u64 1667330662] W fun e W' =>
      (e = .returned (.bool true) ∧ J (pre ++ [x]) W' ∧ W'.heap[Bn]? = W.heap[Bn]?) ∨ (e = .returned (.bool false) ∧ Jx (pre ++ [x]) W'))
    (W : World) (hBn : W.cell? ⟨Bn, 0, none⟩ = some (.string fracS)) (h0 : J [] W) :
    CallsIn Fence.wide n Tryd.prog 43 #[.func (.yield l) #[] #[], .pointer (some ⟨Bn, 0, none⟩)] W fun e W' => (∃ v, e = .returned v) ∧
      ((∃ ys, ys = [()] ∧ J ys W') ∨ (∃ pre, pre <+: [()] ∧ Jx pre W')) := by
  refine callsIn_of_wp Tryd.func43 rfl trivial ?_ rfl
  simp only [Tryd.ntmps43, List.size_toArray, List.length_cons, List.length_nil, Nat.reduceAdd, Nat.reduceSub, Array.replicate_succ, Array.replicate_zero, List.push_toArray, List.append_toArray, List.nil_append, List.cons_append]
  gi_wp2
  gi_loopw [3] (fun v wr => (v = .int .i64 0 ∧ J [] wr ∧ wr.cell? ⟨Bn, 0, none⟩ = some (.string fracS)) ∨ (v = .int .i64 8 ∧ J [()] wr ∧ wr.cell? ⟨Bn, 0, none⟩ = some (.string fracS))) (fun v _ => (9 - intOf v).toNat)
  case atStart => exact .inl ⟨rfl, h0, hBn⟩
  case round =>
    rcases hrel with ⟨rfl, hJ, hc⟩ | ⟨rfl, hJ, hc⟩
    · obtain ⟨fn, tmps, assign, body, hy, hR⟩ := hY [] () wr hJ (by simp)
      have HR := Box.mk hR
      gi_wp2
      gi_loopw [4, 5] (fun x y wx => ∃ k : Nat, k ≤ 4 ∧ y = .int .i64 (k : Nat) ∧ x = .int .u64 (wv k : Nat) ∧ wx = wr) (fun _ y _ => (4 - intOf y).toNat)
      case atStart => exact ⟨0, by omega, rfl, rfl, rfl⟩
      case round =>
        obtain ⟨k, hk, rfl, rfl, rfl⟩ := hrel
        have hkk : k = 0 ∨ k = 1 ∨ k = 2 ∨ k = 3 ∨ k = 4 := by omega
        rcases hkk with rfl | rfl | rfl | rfl | rfl
        · gi_wp2
          exact ⟨⟨1, by omega, rfl, congrArg (Value.int .u64) (by decide +kernel), trivial⟩, by decide⟩
        · gi_wp2
          exact ⟨⟨2, by omega, rfl, congrArg (Value.int .u64) (by decide +kernel), trivial⟩, by decide⟩
        · gi_wp2
          exact ⟨⟨3, by omega, rfl, congrArg (Value.int .u64) (by decide +kernel), trivial⟩, by decide⟩
        · gi_wp2
          exact ⟨⟨4, by omega, rfl, congrArg (Value.int .u64) (by decide +kernel), trivial⟩, by decide⟩
        · rw [show ((wv 4 : Nat) : Int) = 1667330662 from rfl]
          gi_wp2
          refine HR.out.mono ?_
          rintro e W3 (⟨rfl, hJ3, hk3⟩ | ⟨rfl, hJx3⟩)
          · have hc3 : W3.cell? ⟨Bn, 0, none⟩ = some (.string fracS) := (World.cell?_of_block (a := ⟨Bn, 0, none⟩) hk3).trans hc
            gi_wp2
            exact ⟨.inr ⟨rfl, hJ3, hc3⟩, by decide⟩
          · gi_wp2
            refine bodyPost_ret (results_none rfl _ _ _) rfl ?_
            exact ⟨⟨_, rfl⟩, .inr ⟨_, List.prefix_refl _, hJx3⟩⟩
    · gi_wp2
      go_end0
      exact ⟨⟨_, rfl⟩, .inl ⟨_, rfl, hJ⟩⟩
end Go.Proofs.YtinbfdfgebiaeaaDoor
