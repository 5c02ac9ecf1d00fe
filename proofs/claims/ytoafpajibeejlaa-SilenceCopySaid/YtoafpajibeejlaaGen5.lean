/- The generator of operations: the walk. -/
import Derived.Test.YtoafpajibeejlaaOpsQ
set_option linter.unusedVariables false
set_option linter.unusedSimpArgs false
namespace Go.Proofs.Ytoafpajibeejlaa
open Go.RowKit

set_option maxRecDepth 100000 in
set_option maxHeartbeats 40000000 in
theorem ops_any (A : Option Addr) (n c base : Nat) (l : List Int) (w : World) (h : Ints w base (.slice A n c) l) (hbase : base ≤ w.heap.size) :
    Calls Try.prog 16 #[.slice A n c] w (RetOps w base) := by
  obtain ⟨hn, hm⟩ := h.1.len
  have HI := Lib.hid h
  have HN := Lib.hid hn
  clear h hn
  go_enter Try.func16, Try.ntmps16
  go_wp2
  go_loopw [3, 4, 5] (fun v tk i wr => OpsRel w base v tk i wr) (fun _ _ i _ => 14 - (intOf i).toNat)
  case atStart => exact ⟨0, [], 0, by omega, rfl, rfl, by omega, by omega, rfl, World.ownsRow_nil _ _ _ _, fun x hx => by simp at hx, Below.refl _ _⟩
  case round =>
    obtain ⟨k, lo, t0, hk, rfl, rfl, ht1, ht2, hlo, hown, hok, hbw⟩ := hrel
    have hsz := hbw.size
    by_cases hlt : k < 14 ∧ 6 * (k : Int) + 6 ≤ (n : Int)
    · obtain ⟨hk14, hkn⟩ := hlt
      have HR := Lib.hid (And.intro hlo (And.intro hown (And.intro hok hbw)))
      clear hlo hown hok hbw
      have HIX := Lib.hid (HI.out.below HR.out.2.2.2)
      obtain ⟨hp1, hp2⟩ := pick_bd l (6 * (k : Int)) 100000 (by omega)
      obtain ⟨hp3, hp4⟩ := pick_bd l (6 * (k : Int) + 1) 100000 (by omega)
      go_upto_region 8 with (go_at_call 22; refine (pick_any _ _ _ base l _ _ _ (by exact HIX.out) (by omega) (by omega)).mono ?_; rintro e w' ⟨rfl, rfl⟩)
      generalize pickZ l (6 * (k : Int)) 100000 = nn at *
      generalize pickZ l (6 * (k : Int) + 1) 100000 = mm at *
      go_cut [4] (fun s4 wx => wx = wr ∧ ∃ tk : Int, s4 = .int .i64 tk ∧ 0 ≤ tk ∧ tk ≤ 5 * ((k : Int) + 1))
      case first => 
        by_cases hmx : 0 < t0 + nn % 6 - 1
        · go_wp2
          go_meet
          exact ⟨rfl, _, rfl, by omega, by omega⟩
        · go_wp2
          go_meet
          exact ⟨rfl, _, rfl, by omega, by omega⟩
      case rest => 
        obtain ⟨hwc, tk, rfl, htk1, htk2⟩ := hcut
        subst hwc
        obtain ⟨wr, hwr⟩ : ∃ x, x = wc := ⟨_, rfl⟩
        subst hwr
        clear ht1 ht2
        go_upto_region 9 with fail
        refine ops_r9 hp1 hp2 hp3 hp4 htk1 (by omega) (fun a' w0 hp => ?_)
        unfold P9 at hp
        obtain ⟨v37, hp⟩ := hp
        obtain ⟨v38, hp⟩ := hp
        obtain ⟨v39, hp⟩ := hp
        obtain ⟨v40, hp⟩ := hp
        obtain ⟨v41, hp⟩ := hp
        obtain ⟨v42, hp⟩ := hp
        obtain ⟨v43, hp⟩ := hp
        obtain ⟨v44, hp⟩ := hp
        obtain ⟨v45, hp⟩ := hp
        obtain ⟨v46, hp⟩ := hp
        obtain ⟨v47, hp⟩ := hp
        obtain ⟨v48, hp⟩ := hp
        obtain ⟨v49, hp⟩ := hp
        obtain ⟨v50, hp⟩ := hp
        obtain ⟨v51, hp⟩ := hp
        obtain ⟨v52, hp⟩ := hp
        obtain ⟨v53, hp⟩ := hp
        obtain ⟨v54, hp⟩ := hp
        obtain ⟨v55, hp⟩ := hp
        obtain ⟨v56, hp⟩ := hp
        obtain ⟨v57, hp⟩ := hp
        obtain ⟨v58, hp⟩ := hp
        obtain ⟨⟨kd, til, oid, cls, x1, ⟨kd1, kd2⟩, ⟨til1, til2⟩, ⟨oid1, oid2⟩, ⟨cls1, cls2⟩, hx1m, hb1, hw1⟩, rfl⟩ := hp
        have HX1 := Lib.hid hx1m
        clear hx1m
        obtain ⟨d0, d1, d2, d3, d4, d5, d6, d7, d8, d9, d10, d11, d12, d13, d14, d15, d16, d17, d18, d19, d20, d21⟩ := hb1.twentytwo
        have df := hb1.frozen
        have HB1 := Lib.hid (And.intro hb1 hw1)
        clear hb1 hw1
        go_upto_if 60 with fail
        go_cut [8] (fun s8 wx => s8 = .pointer (some ⟨wr.heap.size + 1, 0, none⟩) ∧ OCut wr (fun kd til => #[.int .i64 (kd), .int .i64 0, .slice none 0 0, .string ⟨#[]⟩, .string ⟨#[]⟩, .int .i64 0, .int .i64 0, .int .i64 0, .int .i64 0, .int .i64 0, .int .i64 (oid), .string x1, .int .i64 tk, .int .i64 (til), .int .i64 cls, .int .i64 0, .string ⟨#[]⟩, .int .i64 0, .slice none 0 0, .int .i64 0, .int .i64 0, .string ⟨#[]⟩]) wx)
        case first => 
          by_cases hk3 : (k : Int) < 3
          · go_wp2
            go_meet
            exact ⟨rfl, 0, til, by omega, ⟨til1, til2⟩, HB1.out.1.set 0 _, HB1.out.2.setCell (by simp only; omega) _⟩
          · go_wp2
            go_meet
            exact ⟨rfl, kd, til, ⟨kd1, kd2⟩, ⟨til1, til2⟩, HB1.out.1, HB1.out.2⟩
        case rest => 
          clear d0 d1 d2 d3 d4 d5 d6 d7 d8 d9 d10 d11 d12 d13 d14 d15 d16 d17 d18 d19 d20 d21 df
          clear HB1 kd1 kd2 til1 til2 kd til
          obtain ⟨rfl, kd, til, ⟨kd1, kd2⟩, ⟨til1, til2⟩, hb1, hw1⟩ := hcut
          obtain ⟨w1, hw1e⟩ : ∃ x, x = wc := ⟨_, rfl⟩
          subst hw1e
          obtain ⟨d0, d1, d2, d3, d4, d5, d6, d7, d8, d9, d10, d11, d12, d13, d14, d15, d16, d17, d18, d19, d20, d21⟩ := hb1.twentytwo
          have df := hb1.frozen
          have HB1 := Lib.hid (And.intro hb1 hw1)
          clear hb1 hw1
          go_upto_region 12 with fail
          go_cut [70] (fun s70 wx => wx = w1 ∧ ∃ b : Bool, s70 = .bool b)
          case first => 
            by_cases hkd : 0 < kd
            · go_wp2
              go_meet
              exact ⟨rfl, _, rfl⟩
            · go_wp2
              go_meet
              exact ⟨rfl, _, rfl⟩
          case rest => 
            obtain ⟨hwc2, b, rfl⟩ := hcut
            subst hwc2
            go_upto_if 70 with fail
            go_cut [8] (fun s8 wx => s8 = .pointer (some ⟨wr.heap.size + 1, 0, none⟩) ∧ OCut wr (fun kd til => #[.int .i64 (kd), .int .i64 0, .slice none 0 0, .string ⟨#[]⟩, .string ⟨#[]⟩, .int .i64 0, .int .i64 0, .int .i64 0, .int .i64 0, .int .i64 0, .int .i64 (oid), .string x1, .int .i64 tk, .int .i64 (til), .int .i64 cls, .int .i64 0, .string ⟨#[]⟩, .int .i64 0, .slice none 0 0, .int .i64 0, .int .i64 0, .string ⟨#[]⟩]) wx)
            case first => 
              cases b
              · go_wp2
                go_meet
                exact ⟨rfl, kd, til, ⟨kd1, kd2⟩, ⟨til1, til2⟩, HB1.out.1, HB1.out.2⟩
              · go_wp2
                go_meet
                exact ⟨rfl, 3, til, by omega, ⟨til1, til2⟩, HB1.out.1.set 0 _, HB1.out.2.setCell (by simp only; omega) _⟩
            case rest => 
              clear d0 d1 d2 d3 d4 d5 d6 d7 d8 d9 d10 d11 d12 d13 d14 d15 d16 d17 d18 d19 d20 d21 df
              clear HB1 kd1 kd2 til1 til2 kd til
              obtain ⟨rfl, kd, til, ⟨kd1, kd2⟩, ⟨til1, til2⟩, hb1, hw1⟩ := hcut
              obtain ⟨w2, hw2e⟩ : ∃ x, x = wc := ⟨_, rfl⟩
              subst hw2e
              obtain ⟨d0, d1, d2, d3, d4, d5, d6, d7, d8, d9, d10, d11, d12, d13, d14, d15, d16, d17, d18, d19, d20, d21⟩ := hb1.twentytwo
              have df := hb1.frozen
              have HB1 := Lib.hid (And.intro hb1 hw1)
              clear hb1 hw1
              go_upto_if 75 with fail
              go_cut [8] (fun s8 wx => s8 = .pointer (some ⟨wr.heap.size + 1, 0, none⟩) ∧ OCut wr (fun kd til => #[.int .i64 (kd), .int .i64 0, .slice none 0 0, .string ⟨#[]⟩, .string ⟨#[]⟩, .int .i64 0, .int .i64 0, .int .i64 0, .int .i64 0, .int .i64 0, .int .i64 (oid), .string x1, .int .i64 tk, .int .i64 (til), .int .i64 cls, .int .i64 0, .string ⟨#[]⟩, .int .i64 0, .slice none 0 0, .int .i64 0, .int .i64 0, .string ⟨#[]⟩]) wx)
              case first => 
                by_cases h75 : (mm / 70 % 16 == 0) = true
                · go_wp2
                  go_meet
                  exact ⟨rfl, kd, _, ⟨kd1, kd2⟩, by omega, HB1.out.1.set 13 _, HB1.out.2.setCell (by simp only; omega) _⟩
                · have h75' : (mm / 70 % 16 == 0) = false := by simpa using h75
                  clear h75
                  go_wp2
                  go_meet
                  exact ⟨rfl, kd, til, ⟨kd1, kd2⟩, ⟨til1, til2⟩, HB1.out.1, HB1.out.2⟩
              case rest => 
                clear d0 d1 d2 d3 d4 d5 d6 d7 d8 d9 d10 d11 d12 d13 d14 d15 d16 d17 d18 d19 d20 d21 df
                clear HB1 kd1 kd2 til1 til2 kd til
                obtain ⟨rfl, kd, til, ⟨kd1, kd2⟩, ⟨til1, til2⟩, hb1, hw1⟩ := hcut
                obtain ⟨w3, hw3e⟩ : ∃ x, x = wc := ⟨_, rfl⟩
                subst hw3e
                obtain ⟨d0, d1, d2, d3, d4, d5, d6, d7, d8, d9, d10, d11, d12, d13, d14, d15, d16, d17, d18, d19, d20, d21⟩ := hb1.twentytwo
                have df := hb1.frozen
                have hz1 := hb1.ty.lt
                have HB1 := Lib.hid (And.intro hb1 hw1)
                clear hb1 hw1
                obtain ⟨hq1, hq2⟩ := pick_bd l (6 * (k : Int) + 4) 64 (by omega)
                have hszr : base ≤ wr.heap.size := by omega
                go_upto_region 16 with fail
                refine ops_r16 HIX HB1 hk14 htk1 (by omega) hszr (fun a' w4 hp => ?_)
                unfold P16 at hp
                obtain ⟨v83, hp⟩ := hp
                obtain ⟨v84, hp⟩ := hp
                obtain ⟨v85, hp⟩ := hp
                obtain ⟨v86, hp⟩ := hp
                obtain ⟨v87, hp⟩ := hp
                obtain ⟨v88, hp⟩ := hp
                obtain ⟨v89, hp⟩ := hp
                obtain ⟨⟨s, AS, nS, cS, hb4, hw4, hm4, hg4⟩, rfl⟩ := hp
                clear d0 d1 d2 d3 d4 d5 d6 d7 d8 d9 d10 d11 d12 d13 d14 d15 d16 d17 d18 d19 d20 d21 df hz1
                clear HB1
                have HS := Lib.hid (And.intro hb4 (And.intro hw4 hm4))
                have HGS := Lib.hid hg4
                clear hb4 hw4 hm4 hg4
                go_upto_region 17 with fail
                refine ops_r17 HIX HS hk14 hp3 hp4 hszr (fun a' w5 hp => ?_)
                unfold P17 at hp
                obtain ⟨v9, hp⟩ := hp
                obtain ⟨v90, hp⟩ := hp
                obtain ⟨v91, hp⟩ := hp
                obtain ⟨v92, hp⟩ := hp
                obtain ⟨v93, hp⟩ := hp
                obtain ⟨v94, hp⟩ := hp
                obtain ⟨v95, hp⟩ := hp
                obtain ⟨v96, hp⟩ := hp
                obtain ⟨v97, hp⟩ := hp
                obtain ⟨v98, hp⟩ := hp
                obtain ⟨v99, hp⟩ := hp
                obtain ⟨v100, hp⟩ := hp
                obtain ⟨v101, hp⟩ := hp
                obtain ⟨v102, hp⟩ := hp
                obtain ⟨v103, hp⟩ := hp
                obtain ⟨v104, hp⟩ := hp
                obtain ⟨v105, hp⟩ := hp
                obtain ⟨v106, hp⟩ := hp
                obtain ⟨⟨ls, AL, nL, cL, rfl, hb5, hw5, hm5, hl5, hl6, hgl⟩, rfl⟩ := hp
                clear HS
                have HS := Lib.hid (And.intro hb5 (And.intro hw5 (And.intro hm5 hl5)))
                have HGF := Lib.hid (And.intro HGS.out (And.intro hl6 hgl))
                clear hb5 hw5 hm5 hl5 hl6 hgl HGS
                go_upto_region 18 with fail
                refine ops_r18 HS hszr (fun a' W9 hp => ?_)
                unfold P18 at hp
                obtain ⟨v107, hp⟩ := hp
                obtain ⟨v108, hp⟩ := hp
                obtain ⟨v109, hp⟩ := hp
                obtain ⟨v110, hp⟩ := hp
                obtain ⟨⟨hb9, hw9, hm9, hl9⟩, rfl⟩ := hp
                clear HS
                have HW9 := Lib.hid (And.intro hb9 (And.intro hw9 (And.intro hm9 hl9)))
                clear hb9 hw9 hm9 hl9
                have hz9 : wr.heap.size < W9.heap.size := by have := HW9.out.1.ty.lt; omega
                go_upto_region 19 with fail
                refine ops_r19 (lo := lo) (w := w) (ls := ls) (Lib.hid ⟨HW9.out.1, own_below HR.out.2.1 HW9.out.2.1⟩) hk14 (by omega) (fun a' w9 hp => ?_)
                unfold P19 at hp
                obtain ⟨v3, hp⟩ := hp
                obtain ⟨v111, hp⟩ := hp
                obtain ⟨v112, hp⟩ := hp
                obtain ⟨v113, hp⟩ := hp
                obtain ⟨v114, hp⟩ := hp
                obtain ⟨⟨hown9, o1, hg9⟩, rfl⟩ := hp
                have HFIN : Hid (w9.ownsRow w.heap.size 42 22 v3 (k + 1) ((lo ++ [(⟨kd, s, .slice AS nS cS, oid, x1, tk, til, cls, .slice AL nL cL, ls⟩ : OpR)]).flatMap opCells) ∧ OpsOk w9 base (lo ++ [(⟨kd, s, .slice AS nS cS, oid, x1, tk, til, cls, .slice AL nL cL, ls⟩ : OpR)]) ∧ Below w.heap.size w w9) := by
                  have hx := pers_size x1 HX1.out
                  exact ops_next hbase HR.out.2.1 HR.out.2.2.1 HR.out.2.2.2 HW9.out.2.1 ⟨HW9.out.2.2.1, HW9.out.2.2.2, HGF.out.1, ⟨kd1, kd2⟩, ⟨oid1, oid2⟩, ⟨htk1, by simp only; omega⟩, ⟨til1, til2⟩, ⟨cls1, cls2⟩, HGF.out.2.1, HGF.out.2.2⟩ hown9 hg9
                clear hown9 hg9
                go_wp2
                go_roundw
                case rel => exact ⟨k + 1, lo ++ [(⟨kd, s, .slice AS nS cS, oid, x1, tk, til, cls, .slice AL nL cL, ls⟩ : OpR)], tk, by omega, by go_num, rfl, htk1, by omega, by simp [HR.out.1], HFIN.out.1, HFIN.out.2.1, HFIN.out.2.2⟩
                case measure => simp [intOf]; omega
    · have hlt' : ¬ (k < 14 ∧ 6 * (k : Int) + 6 ≤ (n : Int)) := hlt
      obtain ⟨A2, c2, hv2⟩ := own_form hown
      have HV := Lib.hid hv2
      have HE : Hid (RetOps w base (.returned (.slice A2 lo.length c2)) wr) := by
        refine ⟨lo, A2, c2, rfl, ⟨?_, hok⟩, by omega, hbw⟩
        have := Seq.of_own (base' := base) hown
        rw [hv2, ← hlo] at this
        exact this
      clear hv2 hown hok hbw hlt'
      by_cases hk14 : k < 14
      · have hkn : ¬ 6 * (k : Int) + 6 ≤ (n : Int) := fun hh => hlt ⟨hk14, hh⟩
        clear hlt
        go_wp2
        go_ret
        have := HE.out
        rw [hlo] at this
        rw [HV.out]
        exact this
      · clear hlt
        go_wp2
        go_ret
        have := HE.out
        rw [hlo] at this
        rw [HV.out]
        exact this
end Go.Proofs.Ytoafpajibeejlaa
