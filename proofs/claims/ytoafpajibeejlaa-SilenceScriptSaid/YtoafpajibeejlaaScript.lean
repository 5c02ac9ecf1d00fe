/- SilenceScript: the walk. -/
import Derived.Test.YtoafpajibeejlaaScrP
import Derived.Test.YtoafpajibeejlaaGen5
set_option linter.unusedVariables false
set_option linter.unusedSimpArgs false
namespace Go.Proofs.Ytoafpajibeejlaa
open Go.RowKit

set_option maxRecDepth 100000 in
set_option maxHeartbeats 4000000 in
theorem script_walk (A : Option Addr) (n c : Nat) (l : List Int) (w : World) (h : Ints w w.heap.size (.slice A n c) l) :
    Calls Try.prog 9 #[.slice A n c] w fun e w' => e = .returned (.bool true) ∧ Below w.heap.size w w' := by
  have HI := Lib.hid h
  have HT0 := Lib.hid (new_two w)
  clear h
  go_enter Try.func9, Try.ntmps9
  go_wp2_with (first
    | (go_at_call 19; refine (new_any _).mono ?_; rintro e w1 ⟨rfl, rfl⟩)
    | (go_at_call 16
       refine (ops_any _ _ _ w.heap.size l _ (by exact HI.out.below (bel2 _ _ _)) (by simp; omega)).mono ?_
       rintro e w1 ⟨lo, A1, c1, rfl, ho1, hlo, hb1⟩
       have HS1 : Hid (OpsAt w1 w.heap.size (.slice A1 lo.length c1) lo ∧ Two w1 w.heap.size w.heap.size (w.heap.size + 1) [] ∧ Fr w.heap.size TT w w1) := ⟨ho1, HT0.out.below hb1, ((Fr.of_below (bel1 _ _)).alloc _).then_ hb1⟩
       clear ho1 hb1))
  go_loopw [6] (fun i wr => ScRel w (.slice A1 lo.length c1) lo i wr) (fun i _ => lo.length - (intOf i).toNat)
  case atStart => exact ⟨0, [], by omega, rfl, by simp, fun x hx => by simp at hx, HS1.out.2.1, HS1.out.1, HS1.out.2.2⟩
  case round =>
    obtain ⟨k, sl, hk, rfl, hlen, hfit, htwo, hops, hfr⟩ := hrel
    have hsz := hfr.size
    by_cases hlt : k < lo.length
    · obtain ⟨kind, s, A2, n2, c2, oid, ow, tick, til, cls, A3, n3, c3, ls, b, off, hx, rfl, hb, hat, hmx, hlx, hgf, ⟨k0, k3⟩, ⟨o1, o5⟩, ⟨t0, t1⟩, ⟨u0, u1⟩, ⟨cl0, cl1⟩, hl6, hgl⟩ := hops.open_ k hlt
      obtain ⟨sl2, hsl2⟩ : ∃ y, opM sl kind s oid ow tick til cls ls = y := ⟨_, rfl⟩
      have hfit2 := opM_fit (sl := sl) (kind := kind) (s := s) (oid := oid) (tick := tick) (til := til) (cls := cls) (ow := ow) (ls := ls) hfit (by unfold GFit at hgf; omega)
      rw [hsl2] at hfit2
      have hln2 : sl2.length ≤ k + 1 := by have := hfit2.2; omega
      have HF := Lib.hid (And.intro hfit (And.intro htwo (And.intro hops hfr)))
      have HF2 := Lib.hid (And.intro hfit2.1 (And.intro hsl2 (And.intro hmx (And.intro hlx hgf.1))))
      have HF2' := Lib.hid (And.intro hfit2.1 (And.intro hsl2 (And.intro hmx (And.intro hlx hgf))))
      have HX := Lib.hid hx
      have HAT := Lib.hid hat
      clear hfit htwo hops hfr hfit2 hsl2 hmx hlx hgf hgl hx hat
      go_upto_region 7 with fail
      refine scr_r7 HX HAT HF HF2' hlt hlen hln2 hlo t0 t1 o1 o5 u0 u1 (fun a' wx hp => ?_)
      unfold ScPost at hp
      obtain ⟨v18, hp⟩ := hp
      obtain ⟨v19, hp⟩ := hp
      obtain ⟨v20, hp⟩ := hp
      obtain ⟨v21, hp⟩ := hp
      obtain ⟨v22, hp⟩ := hp
      obtain ⟨v23, hp⟩ := hp
      obtain ⟨v24, hp⟩ := hp
      obtain ⟨v25, hp⟩ := hp
      obtain ⟨v26, hp⟩ := hp
      obtain ⟨v27, hp⟩ := hp
      obtain ⟨v28, hp⟩ := hp
      obtain ⟨v29, hp⟩ := hp
      obtain ⟨v30, hp⟩ := hp
      obtain ⟨v31, hp⟩ := hp
      obtain ⟨v32, hp⟩ := hp
      obtain ⟨v33, hp⟩ := hp
      obtain ⟨v34, hp⟩ := hp
      obtain ⟨v35, hp⟩ := hp
      obtain ⟨v36, hp⟩ := hp
      obtain ⟨v37, hp⟩ := hp
      obtain ⟨v38, hp⟩ := hp
      obtain ⟨v39, hp⟩ := hp
      obtain ⟨v40, hp⟩ := hp
      obtain ⟨v41, hp⟩ := hp
      obtain ⟨v42, hp⟩ := hp
      obtain ⟨v43, hp⟩ := hp
      obtain ⟨v44, hp⟩ := hp
      obtain ⟨v45, hp⟩ := hp
      obtain ⟨v46, hp⟩ := hp
      obtain ⟨v47, hp⟩ := hp
      obtain ⟨v48, hp⟩ := hp
      obtain ⟨v49, hp⟩ := hp
      obtain ⟨v50, hp⟩ := hp
      obtain ⟨v51, hp⟩ := hp
      obtain ⟨v52, hp⟩ := hp
      obtain ⟨hpost, rfl⟩ := hp
      have HP := Lib.hid hpost
      clear hpost
      go_wp2
      go_roundw
      case rel => exact ⟨k + 1, sl2, by omega, by go_num, hln2, HF2.out.1, HP.out.1, HP.out.2.1, HP.out.2.2⟩
      case measure => simp [intOf]; omega
    · have HF := Lib.hid hfr
      clear hfit htwo hops hfr
      go_wp2_with (go_at_call 15; refine (lives_true _).mono ?_; rintro e w8 ⟨rfl, hb8⟩; have HX8 : Hid (Fr w.heap.size TT w w8) := HF.out.then_ hb8; clear hb8)
      go_ret
      exact ⟨rfl, HX8.out.to_below⟩
end Go.Proofs.Ytoafpajibeejlaa
