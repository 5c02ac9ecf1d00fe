/- Contracts, packed: Sm. -/
import Derived.Test.YtipafbppaaflcaaDoorPl24
import Derived.Deep.CutBlock
set_option linter.unusedVariables false
set_option linter.unusedSimpArgs false
namespace Go.Proofs.YtipafbppaaflcaaDoor
section
open Go.RowKit FracM
theorem cells3H (w : World) (H : Nat) (t : TypeId) (v0 v1 v2 : Value) (h : w.heap.size = H) : ∀ j u, [v0, v1, v2][j]? = some u → (w.alloc (.cells #[v0, v1, v2] t)).cell? ((⟨H, 0, none⟩ : Addr).add j) = some u := by subst h; exact cells3 w t v0 v1 v2
theorem cells1H (w : World) (H : Nat) (t : TypeId) (v0 : Value) (h : w.heap.size = H) : ∀ j u, [v0][j]? = some u → (w.alloc (.cells #[v0] t)).cell? ((⟨H, 0, none⟩ : Addr).add j) = some u := by subst h; exact cells1 w t v0
theorem bel2dd (w : World) (o o' : Obj) : Below w.heap.size w ((w.drew.alloc o).alloc o') := bthen (below_drewN w 1) (bel2 w.drew o o') (Nat.le_refl _)
theorem ApF.mono {R R' : Nat → Nat → Prop} {z : Nat} {w w' : World} (h : ApF R z w w') (hR : ∀ b, R b z → R' b z) : ApF R' z w w' := ⟨h.os, h.tape, h.output, h.size, fun k hk hn => h.block k hk fun hr => hn (hR k hr), h.cell⟩
theorem OwnP.lt {w : World} {P : Nat → Nat → Prop} {t size n : Nat} {v : Value} {xs : List Value} (h : OwnP w P t size v n xs) : OwnP w (fun b e => P b e ∧ b < w.heap.size) t size v n xs := h.mono fun b e hb hp => ⟨hp, hb⟩
set_option maxHeartbeats 8000000 in
set_option maxRecDepth 100000 in
theorem changed_9 (d : Nd) (ks : List Tree) (mv bv kv : Value) (wh v : Int) (B H : Nat) (L : Nat → Nat) (w : World)
  (hT : TreeG w (fun b e => B ≤ b ∧ b < H ∧ e = L b) (.node d ks) (mv, bv, kv)) (hH : H ≤ w.heap.size)
  (w1 : -9223372036854775808 ≤ wh) (w2 : wh ≤ 9223372036854775807) (v1 : -9223372036854775808 ≤ v) (v2 : v ≤ 9223372036854775807)
  (hq0 : around wh 12 = 9) (hl1 : d.ms.length ≤ 1000) (hl2 : d.bys.length ≤ 1000) (hl3 : ks.length ≤ 1000) :
  Calls Tryd.prog 33 #[.agg (ndC d mv bv kv), .int .i64 wh, .int .i64 v] w (RetSp B H L (.node d ks) w) := by
 obtain ⟨A1, n1, rfl, l1⟩ := hT.tree.nod.ms.form
 obtain ⟨A2, n2, rfl, l2⟩ := hT.tree.nod.bys.form
 obtain ⟨A3, n3, rfl, l3⟩ := hT.tree.nod.kform
 have HT := Box.mk hT
 have HOK := Box.mk hT.tree.nod.ok
 have HC := Box.mk (Ch.start w B H L d (.slice A1 d.ms.length n1) (.slice A2 d.bys.length n2) (.slice A3 ks.length n3))
 have HB0 := Box.mk (bel2 w (.cells (ndC d (.slice A1 d.ms.length n1) (.slice A2 d.bys.length n2) (.slice A3 ks.length n3)) 29) (.cells zeroC 29))
 clear hT
 go_enter Tryd.func33, Tryd.ntmps33
 go_upto_region 1 with (fail)
 generalize (w.alloc (.cells (ndC d _ _ _) 29)).alloc (.cells _ 29) = W at HC HB0 ⊢
 go_upto_block 0 with (go_at_call 17; refine (around_any _ _ _ (by omega) (by omega) (by omega) (by omega)).mono ?_; rintro e w' ⟨rfl, rfl⟩)
 go_cut [] (fun wx => ChPost w B H L (.node d ks) wx)
 case first =>
  obtain ⟨c0, c1, c2, c3, c4, c5, c6, c7, c8, c9, c10⟩ := blk11 HC.out.e
  simp only [Nat.zero_add] at c1 c2 c3 c4 c5 c6 c7 c8 c9 c10
  have cf := HC.out.e.frozen
  have hlt := HC.out.e.lt
  generalize around wh 12 = q at *
  subst hq0
  obtain ⟨j0, hj, hy0, hy1, hy2⟩ := info_parts matInfo
  have HJ := Box.mk (And.intro hj (And.intro hy0 (And.intro hy1 hy2)))
  clear hj hy0 hy1 hy2
  obtain ⟨j, HJ3⟩ : ∃ z, Box (around v 3 = z) := ⟨_, ⟨rfl⟩⟩
  obtain ⟨kk, HK5⟩ : ∃ z, Box (around v 5 = z) := ⟨_, ⟨rfl⟩⟩
  have hj0 := around_bd v 3 (by omega)
  rw [HJ3.out] at hj0
  obtain ⟨hj1, hj2⟩ := hj0
  obtain ⟨x, HXC, HXS⟩ : ∃ x : ByteArray, Box ((W.drew.alloc (.cells #[.string ⟨#[97]⟩, .string ⟨#[]⟩, .string ⟨#[49]⟩] 9)).cell? ⟨W.heap.size, j.toNat, none⟩ = some (.string x)) ∧ Box (x.size ≤ maxLen) := by
   have hjj : j = 0 ∨ j = 1 ∨ j = 2 := by omega
   have hlit : (W.drew.alloc (.cells #[.string ⟨#[97]⟩, .string ⟨#[]⟩, .string ⟨#[49]⟩] 9)).heap[W.heap.size]? = some (.cells #[.string ⟨#[97]⟩, .string ⟨#[]⟩, .string ⟨#[49]⟩] 9 (0, 0)) := Blk.new W.drew _ _
   have : ∃ x : ByteArray, (W.drew.alloc (.cells #[.string ⟨#[97]⟩, .string ⟨#[]⟩, .string ⟨#[49]⟩] 9)).cell? ⟨W.heap.size, j.toNat, none⟩ = some (.string x) ∧ x.size ≤ maxLen := by
    rcases hjj with rfl | rfl | rfl
    ·exact ⟨⟨#[97]⟩, by (unfold World.cell?; dsimp only; rw [hlit]; rfl), by show (1 : Nat) ≤ maxLen; unfold maxLen; omega⟩
    ·exact ⟨⟨#[]⟩, by (unfold World.cell?; dsimp only; rw [hlit]; rfl), by show (0 : Nat) ≤ maxLen; unfold maxLen; omega⟩
    ·exact ⟨⟨#[49]⟩, by (unfold World.cell?; dsimp only; rw [hlit]; rfl), by show (1 : Nat) ≤ maxLen; unfold maxLen; omega⟩
   obtain ⟨x, h1, h2⟩ := this
   exact ⟨x, ⟨h1⟩, ⟨h2⟩⟩
  have HOW : Box (OwnP W (fun b e => SpP B H (w.heap.size + 2) L b e ∧ b < W.heap.size) 71 3 (.slice A1 d.ms.length n1) d.ms.length (d.ms.flatMap matCells)) := ⟨by
   cases HT.out with
   | mk _ _ _ _ _ cs hd hm' hb hl hk hr => exact OwnP.lt ((OwnP.sp hm').keep (AgreeB.of_below HB0.out))⟩
  clear w1 w2
  go_wp2_with fail
  refine wp_region_T (S := fun w' => w'.cell? ⟨w.heap.size, 8, none⟩ = some (.slice A1 d.ms.length n1)) 13 (by kernel_rfl) (by exact cell_drew c8) (fun hHeld => ?_)
  refine wpAnyT_take (i := 0) (v := ?_) rfl (by kernel_rfl) (by kernel_rfl) (by kernel_rfl) (fun _ _ _ h => h) (by kernel_rfl) (by decide) (Or.inl ⟨by rfl, ?_⟩) (by assumption) ?_
  rotate_left
  ·(intro wq hSw; (try dsimp only at hSw); (try obtain ⟨hS1, hS2⟩ := hSw); go_simp)
   all_goals with_reducible rfl
  (try simp only [List.getElem_toArray, List.getElem_cons_zero, List.getElem_cons_succ, Act.put, List.setIfInBounds_toArray, List.set_cons_zero, List.set_cons_succ])
  refine wpAnyT_take (i := 1) (v := ?_) rfl (by kernel_rfl) (by kernel_rfl) (by kernel_rfl) (fun _ _ _ h => h) (by kernel_rfl) (by decide) (Or.inl ⟨by rfl, ?_⟩) (by assumption) ?_
  rotate_left
  ·(intro wq hSw; (try dsimp only at hSw); (try obtain ⟨hS1, hS2⟩ := hSw); go_simp)
   all_goals with_reducible rfl
  (try simp only [List.getElem_toArray, List.getElem_cons_zero, List.getElem_cons_succ, Act.put, List.setIfInBounds_toArray, List.set_cons_zero, List.set_cons_succ])
  refine wpAnyT_take (i := 3) (v := ?_) rfl (by kernel_rfl) (by kernel_rfl) (by kernel_rfl) (fun _ _ _ h => h) (by kernel_rfl) (by decide) (Or.inl ⟨by rfl, ?_⟩) (by assumption) ?_
  rotate_left
  ·(intro wq hSw; (try dsimp only at hSw); (try obtain ⟨hS1, hS2⟩ := hSw); go_simp)
   all_goals with_reducible rfl
  (try simp only [List.getElem_toArray, List.getElem_cons_zero, List.getElem_cons_succ, Act.put, List.setIfInBounds_toArray, List.set_cons_zero, List.set_cons_succ])
  refine wpAnyT_take (i := 7) (v := ?_) rfl (by kernel_rfl) (by kernel_rfl) (by kernel_rfl) (fun _ _ _ h => h) (by kernel_rfl) (by decide) (Or.inl ⟨by rfl, ?_⟩) (by assumption) ?_
  rotate_left
  ·(intro wq hSw; (try dsimp only at hSw); (try obtain ⟨hS1, hS2⟩ := hSw); go_simp)
   all_goals with_reducible rfl
  (try simp only [List.getElem_toArray, List.getElem_cons_zero, List.getElem_cons_succ, Act.put, List.setIfInBounds_toArray, List.set_cons_zero, List.set_cons_succ])
  refine wpAnyT_two 2 4 (by kernel_rfl) rfl rfl (fun K' hK' => ?_) (fun K' hK' => ?_)
  ·(try rw [if_pos (by rfl)])
   go_simp
   refine hK'.out _ _ (fun _ => cell_alloc' _ (cell_drew c8)) (fun hHq => ?_)
   clear hHeld
   have hHeld := hHq (by decide)
   clear hHq hK' K'
   (try simp only [List.getElem_toArray, List.getElem_cons_zero, List.getElem_cons_succ, Act.put, List.setIfInBounds_toArray, List.set_cons_zero, List.set_cons_succ])
   have hHeld2 : (fun w' : World => w'.cell? ⟨w.heap.size, 8, none⟩ = some (.slice A1 d.ms.length n1) ∧ w'.cell? ⟨W.heap.size, j.toNat, none⟩ = some (.string x)) (W.drew.alloc (.cells #[.string ⟨#[97]⟩, .string ⟨#[]⟩, .string ⟨#[49]⟩] 9)) := ⟨cell_alloc' _ (cell_drew c8), HXC.out⟩
   clear hHeld
   have hHeld := hHeld2
   clear hHeld2
   refine wpAnyT_more (SS2 := fun w' => w'.cell? ⟨w.heap.size, 8, none⟩ = some (.slice A1 d.ms.length n1) ∧ w'.cell? ⟨W.heap.size, j.toNat, none⟩ = some (.string x)) (fun _ h => h.1) ?_
   refine wpAnyT_one 4 (by kernel_rfl) rfl (fun K' hK' => ?_)
   go_simp
   refine (around_any _ _ _ (by omega) (by omega) (by omega) (by omega)).mono ?_
   rintro e w' ⟨rfl, rfl⟩
   rw [HJ3.out]
   go_wp2_with fail
   refine hK'.out _ _ (fun _ => hHeld) (fun hHq => ?_)
   clear hHeld
   have hHeld := hHq (by decide)
   clear hHq hK' K'
   (try simp only [List.getElem_toArray, List.getElem_cons_zero, List.getElem_cons_succ, Act.put, List.setIfInBounds_toArray, List.set_cons_zero, List.set_cons_succ])
   refine wpAnyT_take (i := 5) (v := ?_) rfl (by kernel_rfl) (by kernel_rfl) (by kernel_rfl) (fun _ _ _ h => h) (by kernel_rfl) (by decide) (Or.inl ⟨by rfl, ?_⟩) (by assumption) ?_
   rotate_left
   ·(intro wq hSw; (try dsimp only at hSw); (try obtain ⟨hS1, hS2⟩ := hSw); go_simp)
    all_goals with_reducible rfl
   (try simp only [List.getElem_toArray, List.getElem_cons_zero, List.getElem_cons_succ, Act.put, List.setIfInBounds_toArray, List.set_cons_zero, List.set_cons_succ])
   refine wpAnyT_take (i := 6) (v := ?_) rfl (by kernel_rfl) (by kernel_rfl) (by kernel_rfl) (fun _ _ _ h => h) (by kernel_rfl) (by decide) (Or.inl ⟨by rfl, ?_⟩) (by assumption) ?_
   rotate_left
   ·(intro wq hSw; (try dsimp only at hSw); (try obtain ⟨hS1, hS2⟩ := hSw); go_simp)
    all_goals with_reducible rfl
   (try simp only [List.getElem_toArray, List.getElem_cons_zero, List.getElem_cons_succ, Act.put, List.setIfInBounds_toArray, List.set_cons_zero, List.set_cons_succ])
   refine wpAnyT_one 8 (by kernel_rfl) rfl (fun K' hK' => ?_)
   go_simp
   refine (around_any _ _ _ (by omega) (by omega) (by omega) (by omega)).mono ?_
   rintro e w' ⟨rfl, rfl⟩
   rw [HK5.out]
   go_wp2_with fail
   refine hK'.out _ _ (fun _ => hHeld) (fun hHq => ?_)
   clear hHeld
   have hHeld := hHq (by decide)
   clear hHq hK' K'
   (try simp only [List.getElem_toArray, List.getElem_cons_zero, List.getElem_cons_succ, Act.put, List.setIfInBounds_toArray, List.set_cons_zero, List.set_cons_succ])
   refine wpAnyT_take (i := 9) (v := ?_) rfl (by kernel_rfl) (by kernel_rfl) (by kernel_rfl) (fun _ _ _ h => h) (by kernel_rfl) (by decide) (Or.inl ⟨by rfl, ?_⟩) (by assumption) ?_
   rotate_left
   ·(intro wq hSw; (try dsimp only at hSw); (try obtain ⟨hS1, hS2⟩ := hSw); go_simp)
    all_goals with_reducible rfl
   (try simp only [List.getElem_toArray, List.getElem_cons_zero, List.getElem_cons_succ, Act.put, List.setIfInBounds_toArray, List.set_cons_zero, List.set_cons_succ])
   refine wpAnyT_one 10 (by kernel_rfl) rfl (fun K' hK' => ?_)
   (try rw [if_pos (by rfl)])
   go_simp
   refine hK'.out _ _ (fun _ => (⟨cell_alloc' _ (cell_alloc' _ (cell_drew c8)), cell_alloc' _ HXC.out⟩)) (fun hHq => ?_)
   clear hHeld
   have hHeld := hHq (by decide)
   clear hHq hK' K'
   (try simp only [List.getElem_toArray, List.getElem_cons_zero, List.getElem_cons_succ, Act.put, List.setIfInBounds_toArray, List.set_cons_zero, List.set_cons_succ])
   refine wpAnyT_one 11 (by kernel_rfl) rfl (fun K' hK' => ?_)
   (try rw [if_pos (by rfl)])
   refine wp_append_sp _ _ _ 25 rfl 71 j0 _ 3 40 Tryd.underlying25 HJ.out.1 HJ.out.2.1 HJ.out.2.2.1 HJ.out.2.2.2 rfl (by decide) (fun b e => SpP B H (w.heap.size + 2) L b e ∧ b < W.heap.size) (.slice A1 d.ms.length n1) d.ms.length (d.ms.flatMap matCells) rfl (by exact HOW.out.keep (AgreeB.of_below (bel2dd _ _ _))) ⟨W.heap.size + 1, 0, none⟩ 1 1 (matCells (x, kk, ⟨#[]⟩)) rfl rfl (cells3H _ _ _ _ _ _ (by simp)) (mat_one _) (by omega) (by unfold maxLen; omega) (by omega) ?_
   intro g8 cap8 w8 hown8 hap8
   have HC8 := Box.mk ((HC.out.below (bel2dd _ _ _)).app hH (hap8.mono fun b h => h.1))
   have HO8 := Box.mk (OwnP.apped (W := ((W.drew.alloc (.cells #[.string ⟨#[97]⟩, .string ⟨#[]⟩, .string ⟨#[49]⟩] 9)).alloc (.cells #[.string x, .int .i64 kk, .string ⟨#[]⟩] 71))) (m := 1) (by have := HC.out.z.lt; simp; omega) (hown8.mono fun b e _ h => h.imp (fun h => ⟨h.1.1, h.2⟩) id))
   have hx8 := (World.cell?_of_block (a := ⟨W.heap.size, j.toNat, none⟩) (hap8.block W.heap.size (by simp; omega) (fun h => absurd h.2 (Nat.lt_irrefl _)))).trans (cell_alloc' _ HXC.out)
   have e8 := (blk11 HC8.out.e).2.2.2.2.2.2.2.2.1
   simp only [Nat.zero_add] at e8
   have ef8 := HC8.out.e.frozen 8
   clear hown8 hap8
   refine hK'.out _ _ (fun _ => ⟨e8, hx8⟩) (fun hHq => ?_)
   clear hHeld
   have hHeld := hHq (by decide)
   clear hHq hK' K'
   (try simp only [List.getElem_toArray, List.getElem_cons_zero, List.getElem_cons_succ, Act.put, List.setIfInBounds_toArray, List.set_cons_zero, List.set_cons_succ])
   refine wpAnyT_take (i := 12) (v := ?_) rfl (by kernel_rfl) (by kernel_rfl) (by kernel_rfl) (fun _ _ _ h => h) (by kernel_rfl) (by decide) (Or.inl ⟨by rfl, ?_⟩) (by assumption) ?_
   rotate_left
   ·(intro wq hSw; (try dsimp only at hSw); (try obtain ⟨hS1, hS2⟩ := hSw); go_simp)
    all_goals with_reducible rfl
   (try simp only [List.getElem_toArray, List.getElem_cons_zero, List.getElem_cons_succ, Act.put, List.setIfInBounds_toArray, List.set_cons_zero, List.set_cons_succ])
   refine wpAnyT_one 13 (by kernel_rfl) rfl (fun K' hK' => ?_)
   (try rw [if_pos (by rfl)])
   go_simp
   refine hK'.out _ _ (fun h => absurd rfl h) (fun _ => ?_)
   clear hHeld hK' K'
   (try simp only [List.getElem_toArray, List.getElem_cons_zero, List.getElem_cons_succ, Act.put, List.setIfInBounds_toArray, List.set_cons_zero, List.set_cons_succ])
   refine wpAnyT_done (by kernel_rfl) ?_ _
   go_wp2_with fail
   go_meet
   exact ch_ms (d' := { d with ms := d.ms ++ [((x, kk, ⟨#[]⟩) : Mat)] }) (HC8.out.set 8 (.slice (some ⟨g8, 0, none⟩) (d.ms.length + 1) cap8) rfl) HT.out (by
    have := HO8.out.keep (AgreeB.of_only (Only.setCell (g := w.heap.size) 8 (.slice (some ⟨g8, 0, none⟩) (d.ms.length + 1) cap8)) fun b e hp => by rcases hp with ⟨q1, q2, q3⟩ | q <;> omega)
    show OwnP _ _ _ 3 _ (d.ms ++ [((x, kk, ⟨#[]⟩) : Mat)]).length ((d.ms ++ [((x, kk, ⟨#[]⟩) : Mat)]).flatMap matCells)
    rw [List.flatMap_append, List.length_append]
    simpa using this) rfl ⟨HOK.out.ints, HOK.out.name, fun m hm => by
     rcases List.mem_append.1 hm with hm | hm
     ·exact HOK.out.ms m hm
     ·simp at hm; subst hm; exact ⟨HXS.out, by show (0 : Nat) ≤ maxLen; omega⟩, HOK.out.bys⟩
  ·go_simp
   refine (around_any _ _ _ (by omega) (by omega) (by omega) (by omega)).mono ?_
   rintro e w' ⟨rfl, rfl⟩
   rw [HJ3.out]
   go_wp2_with fail
   refine hK'.out _ _ (fun _ => cell_drew c8) (fun hHq => ?_)
   clear hHeld
   have hHeld := hHq (by decide)
   clear hHq hK' K'
   (try simp only [List.getElem_toArray, List.getElem_cons_zero, List.getElem_cons_succ, Act.put, List.setIfInBounds_toArray, List.set_cons_zero, List.set_cons_succ])
   refine wpAnyT_two 2 8 (by kernel_rfl) rfl rfl (fun K' hK' => ?_) (fun K' hK' => ?_)
   ·(try rw [if_pos (by rfl)])
    go_simp
    refine hK'.out _ _ (fun _ => cell_alloc' _ (cell_drew c8)) (fun hHq => ?_)
    clear hHeld
    have hHeld := hHq (by decide)
    clear hHq hK' K'
    (try simp only [List.getElem_toArray, List.getElem_cons_zero, List.getElem_cons_succ, Act.put, List.setIfInBounds_toArray, List.set_cons_zero, List.set_cons_succ])
    have hHeld2 : (fun w' : World => w'.cell? ⟨w.heap.size, 8, none⟩ = some (.slice A1 d.ms.length n1) ∧ w'.cell? ⟨W.heap.size, j.toNat, none⟩ = some (.string x)) (W.drew.alloc (.cells #[.string ⟨#[97]⟩, .string ⟨#[]⟩, .string ⟨#[49]⟩] 9)) := ⟨cell_alloc' _ (cell_drew c8), HXC.out⟩
    clear hHeld
    have hHeld := hHeld2
    clear hHeld2
    refine wpAnyT_more (SS2 := fun w' => w'.cell? ⟨w.heap.size, 8, none⟩ = some (.slice A1 d.ms.length n1) ∧ w'.cell? ⟨W.heap.size, j.toNat, none⟩ = some (.string x)) (fun _ h => h.1) ?_
    refine wpAnyT_take (i := 5) (v := ?_) rfl (by kernel_rfl) (by kernel_rfl) (by kernel_rfl) (fun _ _ _ h => h) (by kernel_rfl) (by decide) (Or.inl ⟨by rfl, ?_⟩) (by assumption) ?_
    rotate_left
    ·(intro wq hSw; (try dsimp only at hSw); (try obtain ⟨hS1, hS2⟩ := hSw); go_simp)
     all_goals with_reducible rfl
    (try simp only [List.getElem_toArray, List.getElem_cons_zero, List.getElem_cons_succ, Act.put, List.setIfInBounds_toArray, List.set_cons_zero, List.set_cons_succ])
    refine wpAnyT_take (i := 6) (v := ?_) rfl (by kernel_rfl) (by kernel_rfl) (by kernel_rfl) (fun _ _ _ h => h) (by kernel_rfl) (by decide) (Or.inl ⟨by rfl, ?_⟩) (by assumption) ?_
    rotate_left
    ·(intro wq hSw; (try dsimp only at hSw); (try obtain ⟨hS1, hS2⟩ := hSw); go_simp)
     all_goals with_reducible rfl
    (try simp only [List.getElem_toArray, List.getElem_cons_zero, List.getElem_cons_succ, Act.put, List.setIfInBounds_toArray, List.set_cons_zero, List.set_cons_succ])
    refine wpAnyT_one 8 (by kernel_rfl) rfl (fun K' hK' => ?_)
    go_simp
    refine (around_any _ _ _ (by omega) (by omega) (by omega) (by omega)).mono ?_
    rintro e w' ⟨rfl, rfl⟩
    rw [HK5.out]
    go_wp2_with fail
    refine hK'.out _ _ (fun _ => hHeld) (fun hHq => ?_)
    clear hHeld
    have hHeld := hHq (by decide)
    clear hHq hK' K'
    (try simp only [List.getElem_toArray, List.getElem_cons_zero, List.getElem_cons_succ, Act.put, List.setIfInBounds_toArray, List.set_cons_zero, List.set_cons_succ])
    refine wpAnyT_take (i := 9) (v := ?_) rfl (by kernel_rfl) (by kernel_rfl) (by kernel_rfl) (fun _ _ _ h => h) (by kernel_rfl) (by decide) (Or.inl ⟨by rfl, ?_⟩) (by assumption) ?_
    rotate_left
    ·(intro wq hSw; (try dsimp only at hSw); (try obtain ⟨hS1, hS2⟩ := hSw); go_simp)
     all_goals with_reducible rfl
    (try simp only [List.getElem_toArray, List.getElem_cons_zero, List.getElem_cons_succ, Act.put, List.setIfInBounds_toArray, List.set_cons_zero, List.set_cons_succ])
    refine wpAnyT_one 10 (by kernel_rfl) rfl (fun K' hK' => ?_)
    (try rw [if_pos (by rfl)])
    go_simp
    refine hK'.out _ _ (fun _ => (⟨cell_alloc' _ (cell_alloc' _ (cell_drew c8)), cell_alloc' _ HXC.out⟩)) (fun hHq => ?_)
    clear hHeld
    have hHeld := hHq (by decide)
    clear hHq hK' K'
    (try simp only [List.getElem_toArray, List.getElem_cons_zero, List.getElem_cons_succ, Act.put, List.setIfInBounds_toArray, List.set_cons_zero, List.set_cons_succ])
    refine wpAnyT_one 11 (by kernel_rfl) rfl (fun K' hK' => ?_)
    (try rw [if_pos (by rfl)])
    refine wp_append_sp _ _ _ 25 rfl 71 j0 _ 3 40 Tryd.underlying25 HJ.out.1 HJ.out.2.1 HJ.out.2.2.1 HJ.out.2.2.2 rfl (by decide) (fun b e => SpP B H (w.heap.size + 2) L b e ∧ b < W.heap.size) (.slice A1 d.ms.length n1) d.ms.length (d.ms.flatMap matCells) rfl (by exact HOW.out.keep (AgreeB.of_below (bel2dd _ _ _))) ⟨W.heap.size + 1, 0, none⟩ 1 1 (matCells (x, kk, ⟨#[]⟩)) rfl rfl (cells3H _ _ _ _ _ _ (by simp)) (mat_one _) (by omega) (by unfold maxLen; omega) (by omega) ?_
    intro g8 cap8 w8 hown8 hap8
    have HC8 := Box.mk ((HC.out.below (bel2dd _ _ _)).app hH (hap8.mono fun b h => h.1))
    have HO8 := Box.mk (OwnP.apped (W := ((W.drew.alloc (.cells #[.string ⟨#[97]⟩, .string ⟨#[]⟩, .string ⟨#[49]⟩] 9)).alloc (.cells #[.string x, .int .i64 kk, .string ⟨#[]⟩] 71))) (m := 1) (by have := HC.out.z.lt; simp; omega) (hown8.mono fun b e _ h => h.imp (fun h => ⟨h.1.1, h.2⟩) id))
    have hx8 := (World.cell?_of_block (a := ⟨W.heap.size, j.toNat, none⟩) (hap8.block W.heap.size (by simp; omega) (fun h => absurd h.2 (Nat.lt_irrefl _)))).trans (cell_alloc' _ HXC.out)
    have e8 := (blk11 HC8.out.e).2.2.2.2.2.2.2.2.1
    simp only [Nat.zero_add] at e8
    have ef8 := HC8.out.e.frozen 8
    clear hown8 hap8
    refine hK'.out _ _ (fun _ => ⟨e8, hx8⟩) (fun hHq => ?_)
    clear hHeld
    have hHeld := hHq (by decide)
    clear hHq hK' K'
    (try simp only [List.getElem_toArray, List.getElem_cons_zero, List.getElem_cons_succ, Act.put, List.setIfInBounds_toArray, List.set_cons_zero, List.set_cons_succ])
    refine wpAnyT_take (i := 12) (v := ?_) rfl (by kernel_rfl) (by kernel_rfl) (by kernel_rfl) (fun _ _ _ h => h) (by kernel_rfl) (by decide) (Or.inl ⟨by rfl, ?_⟩) (by assumption) ?_
    rotate_left
    ·(intro wq hSw; (try dsimp only at hSw); (try obtain ⟨hS1, hS2⟩ := hSw); go_simp)
     all_goals with_reducible rfl
    (try simp only [List.getElem_toArray, List.getElem_cons_zero, List.getElem_cons_succ, Act.put, List.setIfInBounds_toArray, List.set_cons_zero, List.set_cons_succ])
    refine wpAnyT_one 13 (by kernel_rfl) rfl (fun K' hK' => ?_)
    (try rw [if_pos (by rfl)])
    go_simp
    refine hK'.out _ _ (fun h => absurd rfl h) (fun _ => ?_)
    clear hHeld hK' K'
    (try simp only [List.getElem_toArray, List.getElem_cons_zero, List.getElem_cons_succ, Act.put, List.setIfInBounds_toArray, List.set_cons_zero, List.set_cons_succ])
    refine wpAnyT_done (by kernel_rfl) ?_ _
    go_wp2_with fail
    go_meet
    exact ch_ms (d' := { d with ms := d.ms ++ [((x, kk, ⟨#[]⟩) : Mat)] }) (HC8.out.set 8 (.slice (some ⟨g8, 0, none⟩) (d.ms.length + 1) cap8) rfl) HT.out (by
     have := HO8.out.keep (AgreeB.of_only (Only.setCell (g := w.heap.size) 8 (.slice (some ⟨g8, 0, none⟩) (d.ms.length + 1) cap8)) fun b e hp => by rcases hp with ⟨q1, q2, q3⟩ | q <;> omega)
     show OwnP _ _ _ 3 _ (d.ms ++ [((x, kk, ⟨#[]⟩) : Mat)]).length ((d.ms ++ [((x, kk, ⟨#[]⟩) : Mat)]).flatMap matCells)
     rw [List.flatMap_append, List.length_append]
     simpa using this) rfl ⟨HOK.out.ints, HOK.out.name, fun m hm => by
      rcases List.mem_append.1 hm with hm | hm
      ·exact HOK.out.ms m hm
      ·simp at hm; subst hm; exact ⟨HXS.out, by show (0 : Nat) ≤ maxLen; omega⟩, HOK.out.bys⟩
   ·go_simp
    refine (around_any _ _ _ (by omega) (by omega) (by omega) (by omega)).mono ?_
    rintro e w' ⟨rfl, rfl⟩
    rw [HK5.out]
    go_wp2_with fail
    refine hK'.out _ _ (fun _ => cell_drew c8) (fun hHq => ?_)
    clear hHeld
    have hHeld := hHq (by decide)
    clear hHq hK' K'
    (try simp only [List.getElem_toArray, List.getElem_cons_zero, List.getElem_cons_succ, Act.put, List.setIfInBounds_toArray, List.set_cons_zero, List.set_cons_succ])
    refine wpAnyT_one 2 (by kernel_rfl) rfl (fun K' hK' => ?_)
    (try rw [if_pos (by rfl)])
    go_simp
    refine hK'.out _ _ (fun _ => cell_alloc' _ (cell_drew c8)) (fun hHq => ?_)
    clear hHeld
    have hHeld := hHq (by decide)
    clear hHq hK' K'
    (try simp only [List.getElem_toArray, List.getElem_cons_zero, List.getElem_cons_succ, Act.put, List.setIfInBounds_toArray, List.set_cons_zero, List.set_cons_succ])
    have hHeld2 : (fun w' : World => w'.cell? ⟨w.heap.size, 8, none⟩ = some (.slice A1 d.ms.length n1) ∧ w'.cell? ⟨W.heap.size, j.toNat, none⟩ = some (.string x)) (W.drew.alloc (.cells #[.string ⟨#[97]⟩, .string ⟨#[]⟩, .string ⟨#[49]⟩] 9)) := ⟨cell_alloc' _ (cell_drew c8), HXC.out⟩
    clear hHeld
    have hHeld := hHeld2
    clear hHeld2
    refine wpAnyT_more (SS2 := fun w' => w'.cell? ⟨w.heap.size, 8, none⟩ = some (.slice A1 d.ms.length n1) ∧ w'.cell? ⟨W.heap.size, j.toNat, none⟩ = some (.string x)) (fun _ h => h.1) ?_
    refine wpAnyT_take (i := 5) (v := ?_) rfl (by kernel_rfl) (by kernel_rfl) (by kernel_rfl) (fun _ _ _ h => h) (by kernel_rfl) (by decide) (Or.inl ⟨by rfl, ?_⟩) (by assumption) ?_
    rotate_left
    ·(intro wq hSw; (try dsimp only at hSw); (try obtain ⟨hS1, hS2⟩ := hSw); go_simp)
     all_goals with_reducible rfl
    (try simp only [List.getElem_toArray, List.getElem_cons_zero, List.getElem_cons_succ, Act.put, List.setIfInBounds_toArray, List.set_cons_zero, List.set_cons_succ])
    refine wpAnyT_take (i := 6) (v := ?_) rfl (by kernel_rfl) (by kernel_rfl) (by kernel_rfl) (fun _ _ _ h => h) (by kernel_rfl) (by decide) (Or.inl ⟨by rfl, ?_⟩) (by assumption) ?_
    rotate_left
    ·(intro wq hSw; (try dsimp only at hSw); (try obtain ⟨hS1, hS2⟩ := hSw); go_simp)
     all_goals with_reducible rfl
    (try simp only [List.getElem_toArray, List.getElem_cons_zero, List.getElem_cons_succ, Act.put, List.setIfInBounds_toArray, List.set_cons_zero, List.set_cons_succ])
    refine wpAnyT_take (i := 9) (v := ?_) rfl (by kernel_rfl) (by kernel_rfl) (by kernel_rfl) (fun _ _ _ h => h) (by kernel_rfl) (by decide) (Or.inl ⟨by rfl, ?_⟩) (by assumption) ?_
    rotate_left
    ·(intro wq hSw; (try dsimp only at hSw); (try obtain ⟨hS1, hS2⟩ := hSw); go_simp)
     all_goals with_reducible rfl
    (try simp only [List.getElem_toArray, List.getElem_cons_zero, List.getElem_cons_succ, Act.put, List.setIfInBounds_toArray, List.set_cons_zero, List.set_cons_succ])
    refine wpAnyT_one 10 (by kernel_rfl) rfl (fun K' hK' => ?_)
    (try rw [if_pos (by rfl)])
    go_simp
    refine hK'.out _ _ (fun _ => (⟨cell_alloc' _ (cell_alloc' _ (cell_drew c8)), cell_alloc' _ HXC.out⟩)) (fun hHq => ?_)
    clear hHeld
    have hHeld := hHq (by decide)
    clear hHq hK' K'
    (try simp only [List.getElem_toArray, List.getElem_cons_zero, List.getElem_cons_succ, Act.put, List.setIfInBounds_toArray, List.set_cons_zero, List.set_cons_succ])
    refine wpAnyT_one 11 (by kernel_rfl) rfl (fun K' hK' => ?_)
    (try rw [if_pos (by rfl)])
    refine wp_append_sp _ _ _ 25 rfl 71 j0 _ 3 40 Tryd.underlying25 HJ.out.1 HJ.out.2.1 HJ.out.2.2.1 HJ.out.2.2.2 rfl (by decide) (fun b e => SpP B H (w.heap.size + 2) L b e ∧ b < W.heap.size) (.slice A1 d.ms.length n1) d.ms.length (d.ms.flatMap matCells) rfl (by exact HOW.out.keep (AgreeB.of_below (bel2dd _ _ _))) ⟨W.heap.size + 1, 0, none⟩ 1 1 (matCells (x, kk, ⟨#[]⟩)) rfl rfl (cells3H _ _ _ _ _ _ (by simp)) (mat_one _) (by omega) (by unfold maxLen; omega) (by omega) ?_
    intro g8 cap8 w8 hown8 hap8
    have HC8 := Box.mk ((HC.out.below (bel2dd _ _ _)).app hH (hap8.mono fun b h => h.1))
    have HO8 := Box.mk (OwnP.apped (W := ((W.drew.alloc (.cells #[.string ⟨#[97]⟩, .string ⟨#[]⟩, .string ⟨#[49]⟩] 9)).alloc (.cells #[.string x, .int .i64 kk, .string ⟨#[]⟩] 71))) (m := 1) (by have := HC.out.z.lt; simp; omega) (hown8.mono fun b e _ h => h.imp (fun h => ⟨h.1.1, h.2⟩) id))
    have hx8 := (World.cell?_of_block (a := ⟨W.heap.size, j.toNat, none⟩) (hap8.block W.heap.size (by simp; omega) (fun h => absurd h.2 (Nat.lt_irrefl _)))).trans (cell_alloc' _ HXC.out)
    have e8 := (blk11 HC8.out.e).2.2.2.2.2.2.2.2.1
    simp only [Nat.zero_add] at e8
    have ef8 := HC8.out.e.frozen 8
    clear hown8 hap8
    refine hK'.out _ _ (fun _ => ⟨e8, hx8⟩) (fun hHq => ?_)
    clear hHeld
    have hHeld := hHq (by decide)
    clear hHq hK' K'
    (try simp only [List.getElem_toArray, List.getElem_cons_zero, List.getElem_cons_succ, Act.put, List.setIfInBounds_toArray, List.set_cons_zero, List.set_cons_succ])
    refine wpAnyT_take (i := 12) (v := ?_) rfl (by kernel_rfl) (by kernel_rfl) (by kernel_rfl) (fun _ _ _ h => h) (by kernel_rfl) (by decide) (Or.inl ⟨by rfl, ?_⟩) (by assumption) ?_
    rotate_left
    ·(intro wq hSw; (try dsimp only at hSw); (try obtain ⟨hS1, hS2⟩ := hSw); go_simp)
     all_goals with_reducible rfl
    (try simp only [List.getElem_toArray, List.getElem_cons_zero, List.getElem_cons_succ, Act.put, List.setIfInBounds_toArray, List.set_cons_zero, List.set_cons_succ])
    refine wpAnyT_one 13 (by kernel_rfl) rfl (fun K' hK' => ?_)
    (try rw [if_pos (by rfl)])
    go_simp
    refine hK'.out _ _ (fun h => absurd rfl h) (fun _ => ?_)
    clear hHeld hK' K'
    (try simp only [List.getElem_toArray, List.getElem_cons_zero, List.getElem_cons_succ, Act.put, List.setIfInBounds_toArray, List.set_cons_zero, List.set_cons_succ])
    refine wpAnyT_done (by kernel_rfl) ?_ _
    go_wp2_with fail
    go_meet
    exact ch_ms (d' := { d with ms := d.ms ++ [((x, kk, ⟨#[]⟩) : Mat)] }) (HC8.out.set 8 (.slice (some ⟨g8, 0, none⟩) (d.ms.length + 1) cap8) rfl) HT.out (by
     have := HO8.out.keep (AgreeB.of_only (Only.setCell (g := w.heap.size) 8 (.slice (some ⟨g8, 0, none⟩) (d.ms.length + 1) cap8)) fun b e hp => by rcases hp with ⟨q1, q2, q3⟩ | q <;> omega)
     show OwnP _ _ _ 3 _ (d.ms ++ [((x, kk, ⟨#[]⟩) : Mat)]).length ((d.ms ++ [((x, kk, ⟨#[]⟩) : Mat)]).flatMap matCells)
     rw [List.flatMap_append, List.length_append]
     simpa using this) rfl ⟨HOK.out.ints, HOK.out.name, fun m hm => by
      rcases List.mem_append.1 hm with hm | hm
      ·exact HOK.out.ms m hm
      ·simp at hm; subst hm; exact ⟨HXS.out, by show (0 : Nat) ≤ maxLen; omega⟩, HOK.out.bys⟩
 case rest =>
  clear HC HB0
  obtain ⟨d', ks', mv', bv', kv', hc, ht, hd, hn⟩ := hcut
  rename World => wx
  obtain ⟨B1, m1, rfl, -⟩ := ht.nod.ms.form
  obtain ⟨B2, m2, rfl, -⟩ := ht.nod.bys.form
  obtain ⟨B3, m3, rfl, -⟩ := ht.nod.kform
  have HC := Box.mk hc
  have HR := Box.mk (And.intro ht (And.intro hd hn))
  clear hc ht hd hn
  obtain ⟨c0, c1, c2, c3, c4, c5, c6, c7, c8, c9, c10⟩ := blk11 HC.out.e
  simp only [Nat.zero_add] at c1 c2 c3 c4 c5 c6 c7 c8 c9 c10
  have cf := HC.out.e.frozen
  obtain ⟨z0, z1, z2, z3, z4, z5, z6, z7, z8, z9, z10⟩ := blk11 HC.out.z
  simp only [Nat.zero_add] at z1 z2 z3 z4 z5 z6 z7 z8 z9 z10
  have zf := HC.out.z.frozen
  go_wp2_with fail
  have HF : Box (Blk (put11 wx (w.heap.size + 1) (.int .i64 d'.kind) (.int .i64 d'.fn) (.int .i64 d'.win) (.int .i64 d'.off) (.int .i64 d'.k) (.int .i64 d'.num) (.int .i64 d'.den) (.string d'.name) (.slice B1 d'.ms.length m1) (.slice B2 d'.bys.length m2) (.slice B3 ks'.length m3)) (w.heap.size + 1) 29 (ndC d' (.slice B1 d'.ms.length m1) (.slice B2 d'.bys.length m2) (.slice B3 ks'.length m3))) := ⟨put11_blk HC.out.z⟩
  have HA : Box (TreeAt (put11 wx (w.heap.size + 1) (.int .i64 d'.kind) (.int .i64 d'.fn) (.int .i64 d'.win) (.int .i64 d'.off) (.int .i64 d'.k) (.int .i64 d'.num) (.int .i64 d'.den) (.string d'.name) (.slice B1 d'.ms.length m1) (.slice B2 d'.bys.length m2) (.slice B3 ks'.length m3)) (FrP H w.heap.size) (.node d' ks') (.slice B1 d'.ms.length m1, .slice B2 d'.bys.length m2, .slice B3 ks'.length m3) ∧ SpF B H L w (put11 wx (w.heap.size + 1) (.int .i64 d'.kind) (.int .i64 d'.fn) (.int .i64 d'.win) (.int .i64 d'.off) (.int .i64 d'.k) (.int .i64 d'.num) (.int .i64 d'.den) (.string d'.name) (.slice B1 d'.ms.length m1) (.slice B2 d'.bys.length m2) (.slice B3 ks'.length m3))) := ⟨(HR.out.1.keep (Agree.of_only (put11_only ..) (fun b e hp => by rcases hp with hp | hp <;> omega))).mono (fun b e _ hp => by rcases hp with hp | hp; exact .inl hp; exact .inr (by omega)), HC.out.fr.then_below (put11_below (by omega) ..)⟩
  show bodyPost _ _ _ _ _ (put11 wx (w.heap.size + 1) (.int .i64 d'.kind) (.int .i64 d'.fn) (.int .i64 d'.win) (.int .i64 d'.off) (.int .i64 d'.k) (.int .i64 d'.num) (.int .i64 d'.den) (.string d'.name) (.slice B1 d'.ms.length m1) (.slice B2 d'.bys.length m2) (.slice B3 ks'.length m3))
  generalize (put11 wx (w.heap.size + 1) (.int .i64 d'.kind) (.int .i64 d'.fn) (.int .i64 d'.win) (.int .i64 d'.off) (.int .i64 d'.k) (.int .i64 d'.num) (.int .i64 d'.den) (.string d'.name) (.slice B1 d'.ms.length m1) (.slice B2 d'.bys.length m2) (.slice B3 ks'.length m3)) = WF at HF HA ⊢
  clear z0 z1 z2 z3 z4 z5 z6 z7 z8 z9 z10 zf c0 c1 c2 c3 c4 c5 c6 c7 c8 c9 c10 cf
  obtain ⟨e0, e1, e2, e3, e4, e5, e6, e7, e8, e9, e10⟩ := blk11 HF.out
  simp only [Nat.zero_add] at e1 e2 e3 e4 e5 e6 e7 e8 e9 e10
  have ef := HF.out.frozen
  refine bodyPost_ret (v := .agg (ndC d' (.slice B1 d'.ms.length m1) (.slice B2 d'.bys.length m2) (.slice B3 ks'.length m3))) (by simp [results, Tryd.results33, go_sem, e0, e1, e2, e3, e4, e5, e6, e7, e8, e9, e10, ef]) rfl ?_
  exact ⟨.node d' ks', (.slice B1 d'.ms.length m1, .slice B2 d'.bys.length m2, .slice B3 ks'.length m3), rfl, HA.out.1, HR.out.2.1, HR.out.2.2, HA.out.2⟩
end
end Go.Proofs.YtipafbppaaflcaaDoor
