/- Contracts, packed: Yg. -/
import Derived.Test.YtcifgobinleldaaGreatDoorPt9
import Derived.Maps.AppendAt
import Derived.OwnWalk
import Derived.Laws.OwnMore
set_option linter.unusedVariables false
set_option linter.unusedSimpArgs false
namespace Go.Proofs.YtcifgobinleldaaGreatDoor
section
open Go.RowKit

abbrev declC : Array Value := #[.string reqS, .slice none 0 0, .int .i64 1, .int .i64 0, .int .i64 0, .int .i64 0, .int .i64 0, .int .i64 0, .int .i64 0, .int .i64 0, .int .i64 0, .int .i64 0]
abbrev oneU : Value := .agg #[.int .i64 1, .int .i64 0, .int .i64 (-1)]
theorem unitInfo : (Tryz.prog.info? 61).map (fun i => (i.zero, i.size, i.bytes)) = some (some (.agg #[.int .i64 0, .int .i64 0, .int .i64 0]), 3, 24) := by kernel_rfl
theorem eq_one (W : World) : (Op.equalIn 10000 61 (.agg #[.int .i64 1, .int .i64 0, .int .i64 0]) (.agg #[.int .i64 1, .int .i64 0, .int .i64 0])).run Tryz.prog W = .ok true W := by kernel_rfl
theorem cells3n (w : World) (t : TypeId) (v0 v1 v2 : Value) : ∀ j u, [v0, v1, v2][j]? = some u → (w.alloc (.cells #[v0, v1, v2] t)).cell? ((⟨w.heap.size, 0, none⟩ : Addr).add j) = some u := by
  intro j u hj
  match j, hj with
  | 0, hj => simp at hj; subst hj; simp [Addr.add]
  | 1, hj => simp at hj; subst hj; simp [Addr.add]
  | 2, hj => simp at hj; subst hj; simp [Addr.add]
  | j + 3, hj => simp at hj
set_option maxHeartbeats 400000 in
theorem match_nil (w : World) : Calls Tryz.prog 31 #[.slice none 0 0, .slice none 0 0] w (RetB (.bool true) w) := by
  go_enter Tryz.func31, Tryz.ntmps31
  go_wp2_with fail
  go_loop [11] (fun v => v = .int .i64 0) (fun _ => 0)
  case atStart => rfl
  case round =>
    subst hrel
    go_wp2_with fail
    go_ret
    exact ⟨rfl, Below.refl _ _⟩
set_option maxHeartbeats 1000000 in
theorem limited_one (g : Nat) (w : World) : Calls Tryz.prog 169 #[.pointer (some ⟨g, 0, none⟩), oneU] w (RetB oneU w) := by
  go_enter Tryz.func169, Tryz.ntmps169
  go_wp2_with fail
  refine (uvalid_any _ _ _ _ (by omega)).mono ?_
  rintro e w1 ⟨rfl, hb⟩
  have HB : Hid (Below w.heap.size w w1 ∧ Blk w1 w.heap.size 61 #[.int .i64 1, .int .i64 0, .int .i64 (-1)] ∧ Blk w1 (w.heap.size + 1) 61 #[.int .i64 0, .int .i64 0, .int .i64 0]) := ⟨bthen (bel2 _ _ _) hb (Nat.le_refl _), ((Blk.new _ _ _).alloc _).below hb, (Blk.newAt _ _ (by simp)).below hb⟩
  clear hb
  obtain ⟨p0, p1, p2⟩ := HB.out.2.1.c3
  obtain ⟨r0, r1, r2⟩ := HB.out.2.2.c3
  have rf := HB.out.2.2.frozen
  go_wp2_with fail
  exact bodyPost_ret (v := oneU) (by simp [results, Tryz.results169, go_sem, r0, r1, r2, rf]) rfl ⟨rfl, bset3 HB.out.1 (by omega) _ _ _⟩
/-- the units that were found: one -/
structure U1 (W : World) (u : Value) (b off c : Nat) : Prop where
  eq : u = .slice (some ⟨b, off, none⟩) 1 c
  le : 1 ≤ c ∧ c ≤ maxLen
  lt : b < W.heap.size
  c0 : W.cell? ⟨b, off, none⟩ = some (.int .i64 1)
  c1 : W.cell? ⟨b, off + 1, none⟩ = some (.int .i64 0)
  c2 : W.cell? ⟨b, off + 2, none⟩ = some (.int .i64 0)
theorem U1.below {W W' : World} {u : Value} {b off c : Nat} (h : U1 W u b off c) (hb : Below W.heap.size W W') : U1 W' u b off c :=
  ⟨h.eq, h.le, Nat.lt_of_lt_of_le h.lt hb.size, (hb.cell h.lt).trans h.c0, (hb.cell h.lt).trans h.c1, (hb.cell h.lt).trans h.c2⟩
theorem U1.of {W : World} {base : Nat} {u : Value} (h : W.ownsRow base 61 3 u 1 [.int .i64 1, .int .i64 0, .int .i64 0]) : ∃ b off c, U1 W u b off c := by
  obtain ⟨_, A, c, rfl, h1, h2, h3⟩ := Seq.of_own (base' := base) h
  obtain ⟨b, off, rfl, hf, hx⟩ := h3 (by omega)
  exact ⟨b, off, c, rfl, ⟨h1, h2⟩, hf.1, by simpa using hx 0 _ rfl, by simpa using hx 1 _ rfl, by simpa using hx 2 _ rfl⟩
theorem T2.newCell {g : Nat} {w W : World} {cs : Array Value} (h : T2 g w W cs) (hg : g < w.heap.size) {G : Nat} (hG : w.heap.size + 1 < G) (o : Nat) (u : Value) : T2 g w (W.setCell ⟨G, o, none⟩ u) cs :=
  ⟨h.only.newCell (p := ⟨G, o, none⟩) (by simp only; omega) u, h.T.far (p := ⟨G, o, none⟩) (by simp only; omega) u, h.Q.far (p := ⟨G, o, none⟩) (by simp only; omega) u, h.R.far (p := ⟨G, o, none⟩) (by simp only; omega) u⟩
def SelRel (g : Nat) (cs : Array Value) (w : World) (u v : Value) (wr : World) : Prop :=
  T2 g w wr cs ∧ ((v = .int .i64 0 ∧ u = .slice none 0 0) ∨ (v = .int .i64 1 ∧ ∃ b off c, U1 wr u b off c))
set_option maxHeartbeats 2000000 in
set_option maxRecDepth 100000 in
theorem selected_one (g B : Nat) (w : World) (hg : Blk w g 133 #[.slice (some ⟨B, 0, none⟩) 1 1, .int .i64 0]) (hB : Blk w B 63 declC) (hn : B ≠ g) : Calls Tryz.prog 124 #[.pointer (some ⟨g, 0, none⟩), reqV] w (RetT g oneU #[.slice (some ⟨B, 0, none⟩) 1 1, .int .i64 0] w) := by
  obtain ⟨i0, hi, hz0, hz1, hz2⟩ := info_parts unitInfo
  have HI := Box.mk (And.intro hi (And.intro hz0 (And.intro hz1 hz2)))
  have gz := hg.lt
  have bz := hB.lt
  have HB := Lib.hid (T2.start hg)
  have HD := Box.mk hB
  clear hg hB hi hz0 hz1 hz2
  go_enter Tryz.func124, Tryz.ntmps124
  go_upto_region 2 with (fail)
  generalize ((w.alloc (.cells reqC 33)).alloc (.cells #[.int .i64 0, .int .i64 0, .int .i64 0] 61)) = W at HB ⊢
  obtain ⟨t0, t1⟩ := HB.out.T.c2
  go_wp2_with fail
  go_loopw [5, 19] (fun u v wr => SelRel g #[.slice (some ⟨B, 0, none⟩) 1 1, .int .i64 0] w u v wr) (fun _ v _ => (1 - intOf v).toNat)
  case atStart => exact ⟨HB.out, .inl ⟨rfl, rfl⟩⟩
  case round =>
    clear HB t0 t1
    obtain ⟨hT, hrel⟩ := hrel
    have HB := Lib.hid hT; clear hT
    rcases hrel with ⟨rfl, rfl⟩ | ⟨rfl, b, off, c, hU⟩
    · have HDr := Box.mk (HB.out.only.blk HD.out hn)
      obtain ⟨d0, d1, d2, d3, d4, d5, d6, d7, d8, d9, d10, d11⟩ : wr.cell? ⟨B, 0, none⟩ = some (.string reqS) ∧ wr.cell? ⟨B, 1, none⟩ = some (.slice none 0 0) ∧ wr.cell? ⟨B, 2, none⟩ = some (.int .i64 1) ∧ wr.cell? ⟨B, 3, none⟩ = some (.int .i64 0) ∧ wr.cell? ⟨B, 4, none⟩ = some (.int .i64 0) ∧ wr.cell? ⟨B, 5, none⟩ = some (.int .i64 0) ∧ wr.cell? ⟨B, 6, none⟩ = some (.int .i64 0) ∧ wr.cell? ⟨B, 7, none⟩ = some (.int .i64 0) ∧ wr.cell? ⟨B, 8, none⟩ = some (.int .i64 0) ∧ wr.cell? ⟨B, 9, none⟩ = some (.int .i64 0) ∧ wr.cell? ⟨B, 10, none⟩ = some (.int .i64 0) ∧ wr.cell? ⟨B, 11, none⟩ = some (.int .i64 0) := by
        have h := HDr.out; unfold Blk at h
        refine ⟨?_, ?_, ?_, ?_, ?_, ?_, ?_, ?_, ?_, ?_, ?_, ?_⟩ <;> simp [World.cell?, h]
      obtain ⟨c0, c1, c2, c3, c4, c5, c6, c7, c8, c9, c10⟩ := req_at HB.out.Q
      clear c0 c1 c2 c3 c4 c5 c6 c9 c10
      have hq := HB.out.Q.lt
      have nq : ¬ w.heap.size = wr.heap.size := by omega
      go_upto_region 5 with (fail)
      have HB2 := Lib.hid (HB.out.below (bel1 wr (.cells declC 63)))
      have HDd : Hid (Blk (wr.alloc (.cells declC 63)) wr.heap.size 63 declC) := Blk.new _ _ _
      clear HB HDr d0 d1 d2 d3 d4 d5 d6 d7 d8 d9 d10 d11 c7 c8 hq nq
      generalize wr.heap.size = G at *
      generalize wr.alloc (.cells declC 63) = W1 at *
      have HB := Lib.hid HB2.out; clear HB2
      obtain ⟨c7, c8⟩ : W1.cell? ⟨w.heap.size, 7, none⟩ = some (.string reqS) ∧ W1.cell? ⟨w.heap.size, 8, none⟩ = some (.slice none 0 0) := ⟨(req_at HB.out.Q).2.2.2.2.2.2.2.1, (req_at HB.out.Q).2.2.2.2.2.2.2.2.1⟩
      obtain ⟨d0, d1⟩ : W1.cell? ⟨G, 0, none⟩ = some (.string reqS) ∧ W1.cell? ⟨G, 1, none⟩ = some (.slice none 0 0) := by
        have h := HDd.out; unfold Blk at h
        constructor <;> simp [World.cell?, h]
      go_wp2_with fail
      refine (match_nil _).mono ?_
      rintro e w2 ⟨rfl, hb⟩
      clear c7 c8 d0 d1
      have HB2 := Lib.hid (HB.out.below hb); clear HB
      have HD2 := Lib.hid (HDd.out.below hb); clear HDd hb
      have HB := Lib.hid HB2.out; clear HB2
      obtain ⟨d2, d3, d4⟩ : w2.cell? ⟨G, 2, none⟩ = some (.int .i64 1) ∧ w2.cell? ⟨G, 3, none⟩ = some (.int .i64 0) ∧ w2.cell? ⟨G, 4, none⟩ = some (.int .i64 0) := by
        have h := HD2.out; unfold Blk at h
        refine ⟨?_, ?_, ?_⟩ <;> simp [World.cell?, h]
      have hz := HB.out.only.size
      go_wp2_with (at_builtin; refine wpList_append_own_at _ rfl _ _ 83 rfl w.heap.size 61 i0 _ 3 24 Tryz.underlying83 HI.out.1 HI.out.2.1 HI.out.2.2.1 HI.out.2.2.2 rfl (by decide) (.slice none 0 0) 0 [] rfl (World.ownsRow_nil _ _ _ _) ⟨w2.heap.size, 0, none⟩ 1 1 [.int .i64 1, .int .i64 0, .int .i64 0] rfl rfl (cells3n _ _ _ _ _) (by intro u hu; simp at hu; rcases hu with rfl | rfl | rfl <;> rfl) (by unfold maxLen; omega) (by omega) (by simp; omega) ?_; intro v' w3 hown hgr _ hat)
      have HB3 : Hid (T2 g w w3 #[.slice (some ⟨B, 0, none⟩) 1 1, .int .i64 0]) := (HB.out.below (bel1 _ _)).below ⟨hgr.os, hgr.tape, hgr.output, hgr.size, fun k hk => hgr.block k hk (by simp [Value.ownBlock])⟩
      have HU := Box.mk (U1.of hown)
      clear hown hgr hat HB HD2 d2 d3 d4
      go_wp2_with fail
      go_roundw
      case rel => exact ⟨HB3.out, .inr ⟨rfl, HU.out⟩⟩
      case measure => decide
    · obtain ⟨rfl, ⟨hc1, hc2⟩, hlt, k0, k1, k2⟩ := hU
      have HU : Hid (U1 wr (.slice (some ⟨b, off, none⟩) 1 c) b off c) := ⟨rfl, ⟨hc1, hc2⟩, hlt, k0, k1, k2⟩
      clear k0 k1 k2 hlt
      go_wp2_with fail
      go_loopw [50] (fun v wx => T2 g w wx #[.slice (some ⟨B, 0, none⟩) 1 1, .int .i64 0] ∧ U1 wx (.slice (some ⟨b, off, none⟩) 1 c) b off c ∧ (v = .int .i64 0 ∨ v = .int .i64 1)) (fun v _ => (1 - intOf v).toNat)
      case atStart => exact ⟨HB.out, HU.out, .inl rfl⟩
      case round =>
        clear HB HU
        obtain ⟨hT, hU, hv⟩ := hrel
        have HB := Lib.hid hT; have HU := Lib.hid hU; clear hT hU
        obtain ⟨-, -, hlt, k0, k1, k2⟩ := HU.out
        rename World => wx
        rcases hv with rfl | rfl
        · go_upto_region 13 with (fail)
          have HB2 := Lib.hid (HB.out.below (bel1 wx (.cells #[.int .i64 1, .int .i64 0, .int .i64 0] 61)))
          have HU2 := Lib.hid (HU.out.below (bel1 wx (.cells #[.int .i64 1, .int .i64 0, .int .i64 0] 61)))
          have HN : Hid (Blk (wx.alloc (.cells #[.int .i64 1, .int .i64 0, .int .i64 0] 61)) wx.heap.size 61 #[.int .i64 1, .int .i64 0, .int .i64 0]) := Blk.new _ _ _
          clear HB HU hlt k0 k1 k2
          generalize wx.heap.size = G at *
          generalize wx.alloc (.cells #[.int .i64 1, .int .i64 0, .int .i64 0] 61) = W1 at *
          obtain ⟨n0, n1, n2⟩ := HN.out.c3
          go_wp2_with fail
          refine (uvalid_any _ _ _ _ (by omega)).mono ?_
          rintro e w5 ⟨rfl, hb⟩
          clear n0 n1 n2
          have HB := Lib.hid (HB2.out.below hb)
          have HU := Lib.hid (HU2.out.below hb)
          clear HB2 HU2 HN hb
          go_wp2_with fail
          go_roundw
          case rel => exact ⟨HB.out, HU.out, .inr rfl⟩
          case measure => decide
        · go_wp2_with fail
          clear hlt k0 k1 k2
          go_loopw [64] (fun v wx => T2 g w wx #[.slice (some ⟨B, 0, none⟩) 1 1, .int .i64 0] ∧ U1 wx (.slice (some ⟨b, off, none⟩) 1 c) b off c ∧ (v = .int .i64 0 ∨ v = .int .i64 1)) (fun v _ => (1 - intOf v).toNat)
          case atStart => exact ⟨HB.out, HU.out, .inl rfl⟩
          case round =>
            clear HB HU
            obtain ⟨hT, hU, hv⟩ := hrel
            have HB := Lib.hid hT; have HU := Lib.hid hU; clear hT hU
            obtain ⟨-, -, hlt, k0, k1, k2⟩ := HU.out
            rename World => wy
            rcases hv with rfl | rfl
            · have q := eq_one
              go_upto_region 19 with (fail)
              have HB2 := Lib.hid (HB.out.below (bel1 wy (.cells #[.int .i64 1, .int .i64 0, .int .i64 0] 61)))
              have HU2 := Lib.hid (HU.out.below (bel1 wy (.cells #[.int .i64 1, .int .i64 0, .int .i64 0] 61)))
              have HN : Hid (Blk (wy.alloc (.cells #[.int .i64 1, .int .i64 0, .int .i64 0] 61)) wy.heap.size 61 #[.int .i64 1, .int .i64 0, .int .i64 0]) := Blk.new _ _ _
              clear HB HU hlt k0 k1 k2
              generalize wy.heap.size = G at *
              generalize wy.alloc (.cells #[.int .i64 1, .int .i64 0, .int .i64 0] 61) = W1 at *
              obtain ⟨n0, n1, n2⟩ := HN.out.c3
              obtain ⟨-, -, hlt, k0, k1, k2⟩ := HU2.out
              go_region
              all_goals
                go_wp2_with fail
                go_roundw
                case rel => exact ⟨HB2.out.below (below_drewN _ 1), HU2.out.below (below_drewN _ 1), .inr rfl⟩
                case measure => decide
            · have c1 := (req_at HB.out.Q).2.1
              clear c1
              go_upto_region 23 with (fail)
              have hG : w.heap.size + 1 < wy.heap.size := HB.out.R.lt
              have HB2 := Lib.hid (HB.out.below (bel1 wy (.cells #[.int .i64 1, .int .i64 0, .int .i64 0] 61)))
              have HN : Hid (Blk (wy.alloc (.cells #[.int .i64 1, .int .i64 0, .int .i64 0] 61)) wy.heap.size 61 #[.int .i64 1, .int .i64 0, .int .i64 0]) := Blk.new _ _ _
              clear HB HU hlt k0 k1 k2
              generalize wy.heap.size = G at *
              generalize wy.alloc (.cells #[.int .i64 1, .int .i64 0, .int .i64 0] 61) = W1 at *
              obtain ⟨n0, n1, n2⟩ := HN.out.c3
              have nf := HN.out.frozen
              have c1 := (req_at HB2.out.Q).2.1
              go_upto_region 25 with (fail)
              have HB := Lib.hid (HB2.out.newCell gz hG 2 (.int .i64 (-1)))
              have HN2 : Hid (Blk (W1.setCell ⟨G, 2, none⟩ (.int .i64 (-1))) G 61 #[.int .i64 1, .int .i64 0, .int .i64 (-1)]) := by rw [Hid]; simpa using HN.out.set 2 (.int .i64 (-1))
              clear HB2 HN n0 n1 n2 nf c1
              generalize W1.setCell ⟨G, 2, none⟩ (.int .i64 (-1)) = W2 at *
              obtain ⟨n0, n1, n2⟩ := HN2.out.c3
              have hGn : G ≠ w.heap.size + 1 := by omega
              go_region_held3 (fun w' => w'.cell? ⟨G, 0, none⟩ = some (.int .i64 1) ∧ w'.cell? ⟨G, 1, none⟩ = some (.int .i64 0) ∧ w'.cell? ⟨G, 2, none⟩ = some (.int .i64 (-1)))
                (first | exact HN2.out.c3 | exact (HN2.out.below (below_drewN _ 1)).c3 | exact (((HN2.out.far (p := ⟨w.heap.size + 1, 0, none⟩) hGn _).far (p := ⟨w.heap.size + 1, 1, none⟩) hGn _).far (p := ⟨w.heap.size + 1, 2, none⟩) hGn _).c3 | go_keep)
                (first
                  | (go_at_call 169; refine (limited_one g _).mono ?_; rintro e w5 ⟨rfl, hb5⟩; have HB3 : Hid (T2 g w w5 #[.slice (some ⟨B, 0, none⟩) 1 1, .int .i64 0]) := (by first | exact HB.out.below hb5 | exact (HB.out.below (below_drewN _ 1)).below hb5 | exact (HB.out.below (below_drewN _ _)).below hb5); have HN3 : Hid (Blk w5 G 61 #[.int .i64 1, .int .i64 0, .int .i64 (-1)]) := (by first | exact HN2.out.below hb5 | exact Blk.below (w := World.drew _) HN2.out hb5 | exact (HN2.out.below (below_drewN _ _)).below hb5); clear HB HN2; have HB := Lib.hid HB3.out; have HN2 := Lib.hid HN3.out; clear HB3 HN3 hb5; obtain ⟨r0, r1, r2⟩ := HB.out.R.c3; have rf := HB.out.R.frozen))
              all_goals
                go_wp2_with fail
                exact bodyPost_ret (v := oneU) (by simp [results, Tryz.results124, go_sem, r0, r1, r2, rf]) rfl ⟨rfl, blk_R HB.out gz _ _ _, only_R HB.out _ _ _⟩
end
end Go.Proofs.YtcifgobinleldaaGreatDoor
