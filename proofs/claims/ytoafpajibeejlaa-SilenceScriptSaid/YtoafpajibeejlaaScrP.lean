/- SilenceScript: the statement that compares, a theorem of its own. -/
import Derived.Test.YtoafpajibeejlaaScrD
import Derived.Deep.RegionHeld3
import Derived.Deep.DrawnRows
set_option linter.unusedVariables false
set_option linter.unusedSimpArgs false
namespace Go.Proofs.Ytoafpajibeejlaa
open Go.RowKit
attribute [local go_sem ↓] Go.wp_at_zero Go.wp_at_succ

/-- the region of a number, out of the code -/
def regOf' (n : Nat) : Code → Option Code
  | .region i ops d => if i = n then some (.region i ops d) else none
  | .loop c => regOf' n c
  | .seq a b => match regOf' n a with
    | some c => some c
    | none => regOf' n b
  | .block _ c => regOf' n c
  | .scope c => regOf' n c
  | .cond _ a b => match regOf' n a with
    | some c => some c
    | none => regOf' n b
  | _ => none
noncomputable def scrReg (n : Nat) : Code := ((Try.f9.body.bind (regOf' n)).getD .skip)
/-- both books and the operations, at a world -/
def ScSt (w W : World) (l l' : List (Sil × Value)) (v : Value) (lo : List OpR) : Prop := BookAt W w.heap.size w.heap.size l ∧ RBookAt W w.heap.size (w.heap.size + 1) l' ∧ OpsAt W w.heap.size v lo ∧ Fr w.heap.size TT w W
theorem ScSt.next {w W W' : World} {l l' : List (Sil × Value)} {v : Value} {lo : List OpR} (h : ScSt w W l l' v lo) (hb : Below W.heap.size W W') : ScSt w W' l l' v lo := ⟨h.1.below hb, h.2.1.below hb, h.2.2.1.below hb, h.2.2.2.then_ hb⟩
/-- what the loop knows -/
def ScRel (w : World) (v : Value) (lo : List OpR) (i : Value) (wr : World) : Prop :=
  ∃ (k : Nat) (sl : List Sil), k ≤ lo.length ∧ i = .int .i64 k ∧ sl.length ≤ k ∧ (∀ x ∈ sl, CapFit x) ∧ Two wr w.heap.size w.heap.size (w.heap.size + 1) sl ∧ OpsAt wr w.heap.size v lo ∧ Fr w.heap.size TT w wr
theorem OpsAt.tick12 {w : World} {base b off c k : Nat} {l : List OpR} {kind : Int} {s : Sil} {mv lv : Value} {oid tick til cls : Int} {ow : ByteArray} {ls : List Lab} (h : OpsAt w base (.slice (some ⟨b, off, none⟩) l.length c) l) (hx : l[k]? = some ⟨kind, s, mv, oid, ow, tick, til, cls, lv, ls⟩) : w.cell? ⟨b, off + k * 22 + 12, none⟩ = some (.int .i64 tick) := by
  obtain ⟨_, _, hq, _, hat, _⟩ := h.at_ k _ hx
  cases hq
  exact hat 12 _ rfl
theorem no_exit {P : Program} {c : Code} {K : Act → World → Prop} {Q : Exit → Act → World → Prop} {a : Act} {w : World} (h : Code.wp P c (Exit.then K (fun _ _ _ => False)) a w) : Code.wp P c (Exit.then K Q) a w := by
  refine wp_mono h ?_
  intro e a' w' hq
  cases e with
  | normal => exact hq
  | exit id => exact hq.elim
  | goto l => exact hq.elim
  | ret => exact hq.elim
  | panic ch => exact hq.elim
  | outgrown => exact hq.elim
/-- the condition may grow in the midst of a region -/
theorem wpAnyH_more {P : Program} {md : Region.Mode} {ops : Array Oper} {Q : Exit → Act → World → Prop} {S S2 : World → Prop} (hS : ∀ w, S2 w → S w) : ∀ {fuel : Nat} {listed : Array Bool} {a : Act} {w : World}, wpAnyH P md ops Q S2 fuel listed a w → wpAnyH P md ops Q S fuel listed a w := by
  intro fuel
  induction fuel with
  | zero => intro listed a w h; exact h
  | succ fuel ih =>
    intro listed a w h
    exact ⟨h.1, fun i hi => wpOp_mono (fun a' w' h' => ⟨hS _ h'.1, ih h'.2⟩) (h.2 i hi)⟩
def ScPost (u0 u1 u2 u7 u8 u9 u10 u11 u12 u13 u14 u15 u16 u17 u18 u19 u20 u21 u22 u23 u24 u25 u26 u27 u28 u29 u30 u31 u32 u33 u34 u35 u36 u37 u38 u39 u40 u41 u42 u43 u44 u45 u46 u47 u48 u49 u50 u51 u52 u53 u54 : Value) (b off c1 k : Nat) (lo : List OpR) (sl2 : List Sil) (w : World) (a : Act) (wx : World) : Prop := ∃ v18 v19 v20 v21 v22 v23 v24 v25 v26 v27 v28 v29 v30 v31 v32 v33 v34 v35 v36 v37 v38 v39 v40 v41 v42 v43 v44 v45 v46 v47 v48 v49 v50 v51 v52 : Value, (Two wx w.heap.size w.heap.size (w.heap.size + 1) sl2 ∧ OpsAt wx w.heap.size (.slice (some ⟨b, off, none⟩) lo.length c1) lo ∧ Fr w.heap.size TT w wx) ∧ a = ⟨#[u0, u1, u2, .pointer (some ⟨w.heap.size, 0, none⟩), .pointer (some ⟨w.heap.size + 1, 0, none⟩), .slice (some ⟨b, off, none⟩) lo.length c1, .int .i64 k, u7, u8, u9, u10, u11, u12, u13, u14, u15, u16, u17, v18, v19, v20, v21, v22, v23, v24, v25, v26, v27, v28, v29, v30, v31, v32, v33, v34, v35, v36, v37, v38, v39, v40, v41, v42, v43, v44, v45, v46, v47, v48, v49, v50, v51, v52, .bool false, u54], []⟩
set_option maxRecDepth 1000000 in
set_option maxHeartbeats 4000000 in
theorem scr_r7 {K : Act → World → Prop} {Q : Exit → Act → World → Prop} {u0 u1 u2 u7 u8 u9 u10 u11 u12 u13 u14 u15 u16 u17 u18 u19 u20 u21 u22 u23 u24 u25 u26 u27 u28 u29 u30 u31 u32 u33 u34 u35 u36 u37 u38 u39 u40 u41 u42 u43 u44 u45 u46 u47 u48 u49 u50 u51 u52 u53 u54 : Value} {kind : Int} {s : Sil} {A2 : Option Addr} {n2 c2 : Nat} {oid tick til cls : Int} {ow : ByteArray} {A3 : Option Addr} {n3 c3 : Nat} {ls : List Lab} {b off c1 k : Nat} {lo : List OpR} {sl sl2 : List Sil} {w wr : World}
    (HX : Hid (lo[k]? = some ⟨kind, s, .slice A2 n2 c2, oid, ow, tick, til, cls, .slice A3 n3 c3, ls⟩))
    (HAT : Hid (wr.rangeAt b (off + k * 22) [.int .i64 kind, .int .i64 s.id, .slice A2 n2 c2, .string s.ow, .string s.se, .int .i64 s.cl, .int .i64 s.fr, .int .i64 s.un, .int .i64 s.cp, .int .i64 s.hd, .int .i64 oid, .string ow, .int .i64 tick, .int .i64 til, .int .i64 cls, .int .i64 0, .string ⟨#[114]⟩, .int .i64 1, .slice A3 n3 c3, .int .i64 tick, .int .i64 0, .string ⟨#[]⟩]))
    (HF : Hid ((∀ x ∈ sl, CapFit x) ∧ Two wr w.heap.size w.heap.size (w.heap.size + 1) sl ∧ OpsAt wr w.heap.size (.slice (some ⟨b, off, none⟩) lo.length c1) lo ∧ Fr w.heap.size TT w wr))
    (HF2 : Hid ((∀ x ∈ sl2, CapFit x) ∧ opM sl kind s oid ow tick til cls ls = sl2 ∧ Mats wr w.heap.size (.slice A2 n2 c2) s.ms ∧ Labs wr w.heap.size (.slice A3 n3 c3) ls ∧ GFit tick s))
    (hlt : k < lo.length) (hlen : sl.length ≤ k) (hln2 : sl2.length ≤ k + 1) (hk : lo.length ≤ 14) (t0 : 0 ≤ tick) (t1 : tick ≤ 100) (o1 : 1 ≤ oid) (o5 : oid ≤ 5) (u0' : 0 ≤ til) (u1' : til ≤ 2000)
    (hK : ∀ a wx, ScPost u0 u1 u2 u7 u8 u9 u10 u11 u12 u13 u14 u15 u16 u17 u18 u19 u20 u21 u22 u23 u24 u25 u26 u27 u28 u29 u30 u31 u32 u33 u34 u35 u36 u37 u38 u39 u40 u41 u42 u43 u44 u45 u46 u47 u48 u49 u50 u51 u52 u53 u54 b off c1 k lo sl2 w a wx → K a wx) :
    Code.wp Try.prog (scrReg 7) (Exit.then K Q) ⟨#[u0, u1, u2, .pointer (some ⟨w.heap.size, 0, none⟩), .pointer (some ⟨w.heap.size + 1, 0, none⟩), .slice (some ⟨b, off, none⟩) lo.length c1, .int .i64 k, u7, u8, u9, u10, u11, u12, u13, u14, u15, u16, u17, u18, u19, u20, u21, u22, u23, u24, u25, u26, u27, u28, u29, u30, u31, u32, u33, u34, u35, u36, u37, u38, u39, u40, u41, u42, u43, u44, u45, u46, u47, u48, u49, u50, u51, u52, u53, u54], []⟩ wr := by
  refine no_exit ?_
  conv => arg 2; whnf
  have HK := Lib.hid hK
  clear hK
  have hsz : w.heap.size ≤ wr.heap.size := HF.out.2.2.2.size
  have j0 := OpsAt.tick12 HF.out.2.2.1 HX.out
  obtain ⟨dd, hdu, hdr⟩ := opUnder
  have HD := Lib.hid (And.intro hdu hdr)
  clear hdu hdr
  have zz1 : (0 : Int) ≤ (k : Int) := by omega
  have zz2 : (k : Int) < (lo.length : Int) := by omega
  refine wp_region_held_drew (S := fun w' => w'.cell? ⟨b, off + k * 22 + 12, none⟩ = some (.int .i64 tick)) (by kernel_rfl) (by exact j0) (fun hHeld => ?_)
  refine wpAnyH_take (i := 0) (v := ?_) rfl (by kernel_rfl) (by kernel_rfl) (by kernel_rfl) (fun _ _ _ h => h) (Or.inl ⟨by rfl, ?_⟩) (by assumption) ?_
  rotate_left
  · (intro wq hSw; (try dsimp only at hSw); go_simp)
    all_goals with_reducible rfl
  (try simp only [List.getElem_toArray, List.getElem_cons_zero, List.getElem_cons_succ, Act.put, List.setIfInBounds_toArray, List.set_cons_zero, List.set_cons_succ])
  refine wpAnyH_take (i := 1) (v := ?_) rfl (by kernel_rfl) (by kernel_rfl) (by kernel_rfl) (fun _ _ _ h => h) (Or.inl ⟨by rfl, ?_⟩) (by assumption) ?_
  rotate_left
  · (intro wq hSw; (try dsimp only at hSw); go_simp)
    all_goals with_reducible rfl
  (try simp only [List.getElem_toArray, List.getElem_cons_zero, List.getElem_cons_succ, Act.put, List.setIfInBounds_toArray, List.set_cons_zero, List.set_cons_succ])
  refine wpAnyH_take (i := 2) (v := ?_) rfl (by kernel_rfl) (by kernel_rfl) (by kernel_rfl) (fun _ _ _ h => h) (Or.inl ⟨by rfl, ?_⟩) (by assumption) ?_
  rotate_left
  · (intro wq hSw; (try dsimp only at hSw); go_simp)
    all_goals with_reducible rfl
  (try simp only [List.getElem_toArray, List.getElem_cons_zero, List.getElem_cons_succ, Act.put, List.setIfInBounds_toArray, List.set_cons_zero, List.set_cons_succ])
  refine wpAnyH_take (i := 3) (v := ?_) rfl (by kernel_rfl) (by kernel_rfl) (by kernel_rfl) (fun _ _ _ h => h) (Or.inl ⟨by rfl, ?_⟩) (by assumption) ?_
  rotate_left
  · (intro wq hSw; (try dsimp only at hSw); go_simp)
    all_goals with_reducible rfl
  (try simp only [List.getElem_toArray, List.getElem_cons_zero, List.getElem_cons_succ, Act.put, List.setIfInBounds_toArray, List.set_cons_zero, List.set_cons_succ])
  refine wpAnyH_take (i := 4) (v := ?_) rfl (by kernel_rfl) (by kernel_rfl) (by kernel_rfl) (fun _ _ _ h => h) (Or.inl ⟨by rfl, ?_⟩) (by assumption) ?_
  rotate_left
  · (intro wq hSw; (try dsimp only at hSw); go_simp)
    all_goals with_reducible rfl
  (try simp only [List.getElem_toArray, List.getElem_cons_zero, List.getElem_cons_succ, Act.put, List.setIfInBounds_toArray, List.set_cons_zero, List.set_cons_succ])
  refine wpAnyH_ready (rs := [5]) (by kernel_rfl) (by simp) ?_
  refine AllReadyH.cons rfl (fun K' hK' => ?_) AllReadyH.nil
  rw [if_pos (by rfl)]
  refine wp_load_mid _ _ rfl b (off + k * 22) rfl [.int .i64 kind, .int .i64 s.id, .slice A2 n2 c2, .string s.ow, .string s.se, .int .i64 s.cl, .int .i64 s.fr, .int .i64 s.un, .int .i64 s.cp, .int .i64 s.hd, .int .i64 oid, .string ow, .int .i64 tick, .int .i64 til, .int .i64 cls, .int .i64 0, .string ⟨#[114]⟩, .int .i64 1, .slice A3 n3 c3, .int .i64 tick, .int .i64 0, .string ⟨#[]⟩] _ HAT.out HD.out.1 HD.out.2 opSize ?_
  refine hK'.out _ _ ?_ (fun hHeld => ?_)
  · exact hHeld
  clear hK' K'
  (try simp only [List.getElem_toArray, List.getElem_cons_zero, List.getElem_cons_succ, Act.put, List.setIfInBounds_toArray, List.set_cons_zero, List.set_cons_succ])
  refine wpAnyH_ready (rs := [6]) (by kernel_rfl) (by simp) ?_
  refine AllReadyH.cons rfl (fun K' hK' => ?_) AllReadyH.nil
  go_simp
  refine (does_any kind w.heap.size (w.heap.size + 1) w.heap.size sl s _ _ _ _ _ _ _ _ _ _ _ _ _ _ _ _ _ ls _ (by exact HF.out.2.1) (by exact hsz) (by omega) (by exact HF2.out.2.2.1) (by exact HF2.out.2.2.2.1) HF2.out.2.2.2.2.1 HF.out.1 (by omega) (by omega) (by omega) (by omega) (by omega)).mono ?_
  rintro e w5 ⟨rfl, ht5, hf5⟩
  rw [HF2.out.2.1] at ht5
  obtain ⟨l5, l5', hb5, hr5, m5, m5'⟩ := ht5
  obtain ⟨A5, c5, hblk5, hown5, hss5⟩ := hr5.form
  have g5 := hblk5.one
  have hp5 := hblk5.ty.lt
  have HX5 : Hid (ScSt w w5 l5 l5' (.slice (some ⟨b, off, none⟩) lo.length c1) lo ∧ Sils w5 w.heap.size 24 (.slice A5 l5'.length c5) l5') := ⟨⟨hb5, hr5, OpsAt.keep (w := wr.drew) HF.out.2.2.1 hf5 (by decide) (by decide) (by decide), HF.out.2.2.2.drew.trans hf5⟩, hss5⟩
  have HM5 := Lib.hid (And.intro m5 m5')
  have hl5 : l5.length ≤ 100 := by rw [mapLen m5]; omega
  have hl5' : l5'.length ≤ 100 := by rw [mapLen m5']; omega
  have hz5 : w.heap.size ≤ w5.heap.size := HX5.out.1.2.2.2.size
  have j5 := OpsAt.tick12 HX5.out.1.2.2.1 HX.out
  clear hb5 hr5 m5 m5' hblk5 hown5 hss5 hf5
  go_wp2_with fail
  refine hK'.out _ _ ?_ (fun hHeld => ?_)
  · exact j5
  clear hK' K'
  (try simp only [List.getElem_toArray, List.getElem_cons_zero, List.getElem_cons_succ, Act.put, List.setIfInBounds_toArray, List.set_cons_zero, List.set_cons_succ])
  refine wpAnyH_more (S2 := fun w' => w'.cell? ⟨b, off + k * 22 + 12, none⟩ = some (.int .i64 tick) ∧ w'.cell? ⟨w.heap.size + 1, 0, none⟩ = some (.slice A5 l5'.length c5)) (fun _ h => h.1) ?_
  clear hHeld
  have hHeld2 : (fun w' : World => w'.cell? ⟨b, off + k * 22 + 12, none⟩ = some (.int .i64 tick) ∧ w'.cell? ⟨w.heap.size + 1, 0, none⟩ = some (.slice A5 l5'.length c5)) w5 := ⟨j5, g5⟩
  refine wpAnyH_take (i := 7) (v := ?_) rfl (by kernel_rfl) (by kernel_rfl) (by kernel_rfl) (fun _ _ _ h => h) (Or.inl ⟨by rfl, ?_⟩) (by assumption) ?_
  rotate_left
  · (intro wq hSw; (try dsimp only at hSw); go_simp)
    all_goals with_reducible rfl
  (try simp only [List.getElem_toArray, List.getElem_cons_zero, List.getElem_cons_succ, Act.put, List.setIfInBounds_toArray, List.set_cons_zero, List.set_cons_succ])
  refine wpAnyH_take (i := 8) (v := ?_) rfl (by kernel_rfl) (by kernel_rfl) (by kernel_rfl) (fun _ _ _ h => h) (Or.inl ⟨by rfl, ?_⟩) (by assumption) ?_
  rotate_left
  · (intro wq hSw; (try dsimp only at hSw); go_simp)
    all_goals with_reducible rfl
  (try simp only [List.getElem_toArray, List.getElem_cons_zero, List.getElem_cons_succ, Act.put, List.setIfInBounds_toArray, List.set_cons_zero, List.set_cons_succ])
  refine wpAnyH_take (i := 9) (v := ?_) rfl (by kernel_rfl) (by kernel_rfl) (by kernel_rfl) (fun _ _ _ h => h) (Or.inl ⟨by rfl, ?_⟩) (by assumption) ?_
  rotate_left
  · (intro wq hSw; (try dsimp only at hSw); go_simp)
    all_goals with_reducible rfl
  (try simp only [List.getElem_toArray, List.getElem_cons_zero, List.getElem_cons_succ, Act.put, List.setIfInBounds_toArray, List.set_cons_zero, List.set_cons_succ])
  refine wpAnyH_take (i := 11) (v := ?_) rfl (by kernel_rfl) (by kernel_rfl) (by kernel_rfl) (fun _ _ _ h => h) (Or.inl ⟨by rfl, ?_⟩) (by assumption) ?_
  rotate_left
  · (intro wq hSw; (try dsimp only at hSw); go_simp)
    all_goals with_reducible rfl
  (try simp only [List.getElem_toArray, List.getElem_cons_zero, List.getElem_cons_succ, Act.put, List.setIfInBounds_toArray, List.set_cons_zero, List.set_cons_succ])
  refine wpAnyH_take (i := 12) (v := ?_) rfl (by kernel_rfl) (by kernel_rfl) (by kernel_rfl) (fun _ _ _ h => h) (Or.inl ⟨by rfl, ?_⟩) (by assumption) ?_
  rotate_left
  · (intro wq hSw; (try dsimp only at hSw); go_simp)
    all_goals with_reducible rfl
  (try simp only [List.getElem_toArray, List.getElem_cons_zero, List.getElem_cons_succ, Act.put, List.setIfInBounds_toArray, List.set_cons_zero, List.set_cons_succ])
  refine wpAnyH_take (i := 13) (v := ?_) rfl (by kernel_rfl) (by kernel_rfl) (by kernel_rfl) (fun _ _ _ h => h) (Or.inl ⟨by rfl, ?_⟩) (by assumption) ?_
  rotate_left
  · (intro wq hSw; (try dsimp only at hSw); go_simp)
    all_goals with_reducible rfl
  (try simp only [List.getElem_toArray, List.getElem_cons_zero, List.getElem_cons_succ, Act.put, List.setIfInBounds_toArray, List.set_cons_zero, List.set_cons_succ])
  refine wpAnyH_take (i := 14) (v := ?_) rfl (by kernel_rfl) (by kernel_rfl) (by kernel_rfl) (fun _ _ _ h => h) (Or.inl ⟨by rfl, ?_⟩) (by assumption) ?_
  rotate_left
  · (intro wq hSw; (try dsimp only at hSw); go_simp)
    all_goals with_reducible rfl
  (try simp only [List.getElem_toArray, List.getElem_cons_zero, List.getElem_cons_succ, Act.put, List.setIfInBounds_toArray, List.set_cons_zero, List.set_cons_succ])
  refine wpAnyH_ready (rs := [10]) (by kernel_rfl) (by simp) ?_
  refine AllReadyH.cons rfl (fun K' hK' => ?_) AllReadyH.nil
  go_simp
  refine (all_any w.heap.size w.heap.size l5 _ HX5.out.1.1 (by omega) hz5).mono ?_
  rintro e w6 ⟨A6, n6, c6, l6, rfl, hm6, ho6, hk6, hb6⟩
  obtain ⟨A6', c6', hv6⟩ := own_form ho6
  have hn6 : n6 = l6.length := by injection hv6
  subst hn6
  have g6 := bat hb6 hp5 g5
  have hp6 : w.heap.size + 1 < w6.heap.size := Nat.lt_of_lt_of_le hp5 hb6.size
  have HX6 : Hid (Sils w6 w.heap.size 24 (.slice A6 l6.length c6) l6 ∧ Sils w6 w.heap.size 24 (.slice A5 l5'.length c5) l5' ∧ l6.map Prod.fst = l5'.map Prod.fst ∧ ScSt w w6 l5 l5' (.slice (some ⟨b, off, none⟩) lo.length c1) lo) := ⟨⟨Seq.of_own ho6, hk6⟩, HX5.out.2.below hb6, by rw [hm6, HM5.out.1, HM5.out.2], HX5.out.1.next hb6⟩
  have j6 := OpsAt.tick12 HX6.out.2.2.2.2.2.1 HX.out
  clear hm6 ho6 hk6 hb6 hv6
  go_wp2_with fail
  refine hK'.out _ _ ?_ (fun hHeld => ?_)
  · exact ⟨j6, g6⟩
  clear hK' K'
  (try simp only [List.getElem_toArray, List.getElem_cons_zero, List.getElem_cons_succ, Act.put, List.setIfInBounds_toArray, List.set_cons_zero, List.set_cons_succ])
  refine wpAnyH_ready (rs := [15]) (by kernel_rfl) (by simp) ?_
  refine AllReadyH.cons rfl (fun K' hK' => ?_) AllReadyH.nil
  go_simp
  refine (same_any _ _ _ _ _ _ w.heap.size l6 l5' _ HX6.out.1 HX6.out.2.1 HX6.out.2.2.1).mono ?_
  rintro e w7 ⟨rfl, hb7⟩
  have g7 := bat hb7 hp6 g6
  have hp7 : w.heap.size + 1 < w7.heap.size := Nat.lt_of_lt_of_le hp6 hb7.size
  have HX7 : Hid (ScSt w w7 l5 l5' (.slice (some ⟨b, off, none⟩) lo.length c1) lo) := HX6.out.2.2.2.next hb7
  have hz7 : w.heap.size ≤ w7.heap.size := HX7.out.2.2.2.size
  have j7 := OpsAt.tick12 HX7.out.2.2.1 HX.out
  clear hb7
  go_wp2_with fail
  refine hK'.out _ _ ?_ (fun hHeld => ?_)
  · exact ⟨j7, g7⟩
  clear hK' K'
  (try simp only [List.getElem_toArray, List.getElem_cons_zero, List.getElem_cons_succ, Act.put, List.setIfInBounds_toArray, List.set_cons_zero, List.set_cons_succ])
  refine wpAnyH_take (i := 16) (v := ?_) rfl (by kernel_rfl) (by kernel_rfl) (by kernel_rfl) (fun _ _ _ h => h) (Or.inl ⟨by rfl, ?_⟩) (by assumption) ?_
  rotate_left
  · (intro wq hSw; (try dsimp only at hSw); go_simp)
    all_goals with_reducible rfl
  (try simp only [List.getElem_toArray, List.getElem_cons_zero, List.getElem_cons_succ, Act.put, List.setIfInBounds_toArray, List.set_cons_zero, List.set_cons_succ])
  refine wpAnyH_take (i := 17) (v := ?_) rfl (by kernel_rfl) (by kernel_rfl) (by kernel_rfl) (fun _ _ _ h => h) (Or.inl ⟨by rfl, ?_⟩) (by assumption) ?_
  rotate_left
  · (intro wq hSw; (try dsimp only at hSw); go_simp)
    all_goals with_reducible rfl
  (try simp only [List.getElem_toArray, List.getElem_cons_zero, List.getElem_cons_succ, Act.put, List.setIfInBounds_toArray, List.set_cons_zero, List.set_cons_succ])
  refine wpAnyH_take (i := 18) (v := ?_) rfl (by kernel_rfl) (by kernel_rfl) (by kernel_rfl) (fun _ _ _ h => h) (Or.inl ⟨by rfl, ?_⟩) (by assumption) ?_
  rotate_left
  · (intro wq hSw; (try dsimp only at hSw); go_simp)
    all_goals with_reducible rfl
  (try simp only [List.getElem_toArray, List.getElem_cons_zero, List.getElem_cons_succ, Act.put, List.setIfInBounds_toArray, List.set_cons_zero, List.set_cons_succ])
  refine wpAnyH_take (i := 19) (v := ?_) rfl (by kernel_rfl) (by kernel_rfl) (by kernel_rfl) (fun _ _ _ h => h) (Or.inl ⟨by rfl, ?_⟩) (by assumption) ?_
  rotate_left
  · (intro wq hSw; (try dsimp only at hSw); go_simp)
    all_goals with_reducible rfl
  (try simp only [List.getElem_toArray, List.getElem_cons_zero, List.getElem_cons_succ, Act.put, List.setIfInBounds_toArray, List.set_cons_zero, List.set_cons_succ])
  refine wpAnyH_take (i := 20) (v := ?_) rfl (by kernel_rfl) (by kernel_rfl) (by kernel_rfl) (fun _ _ _ h => h) (Or.inl ⟨by rfl, ?_⟩) (by assumption) ?_
  rotate_left
  · (intro wq hSw; (try dsimp only at hSw); go_simp)
    all_goals with_reducible rfl
  (try simp only [List.getElem_toArray, List.getElem_cons_zero, List.getElem_cons_succ, Act.put, List.setIfInBounds_toArray, List.set_cons_zero, List.set_cons_succ])
  refine wpAnyH_take (i := 21) (v := ?_) rfl (by kernel_rfl) (by kernel_rfl) (by kernel_rfl) (fun _ _ _ h => h) (Or.inl ⟨by rfl, ?_⟩) (by assumption) ?_
  rotate_left
  · (intro wq hSw; (try dsimp only at hSw); go_simp)
    all_goals with_reducible rfl
  (try simp only [List.getElem_toArray, List.getElem_cons_zero, List.getElem_cons_succ, Act.put, List.setIfInBounds_toArray, List.set_cons_zero, List.set_cons_succ])
  refine wpAnyH_take (i := 22) (v := ?_) rfl (by kernel_rfl) (by kernel_rfl) (by kernel_rfl) (fun _ _ _ h => h) (Or.inl ⟨by rfl, ?_⟩) (by assumption) ?_
  rotate_left
  · (intro wq hSw; (try dsimp only at hSw); go_simp)
    all_goals with_reducible rfl
  (try simp only [List.getElem_toArray, List.getElem_cons_zero, List.getElem_cons_succ, Act.put, List.setIfInBounds_toArray, List.set_cons_zero, List.set_cons_succ])
  refine wpAnyH_take (i := 23) (v := ?_) rfl (by kernel_rfl) (by kernel_rfl) (by kernel_rfl) (fun _ _ _ h => h) (Or.inl ⟨by rfl, ?_⟩) (by assumption) ?_
  rotate_left
  · (intro wq hSw; (try dsimp only at hSw); go_simp)
    all_goals with_reducible rfl
  (try simp only [List.getElem_toArray, List.getElem_cons_zero, List.getElem_cons_succ, Act.put, List.setIfInBounds_toArray, List.set_cons_zero, List.set_cons_succ])
  refine wpAnyH_take (i := 24) (v := ?_) rfl (by kernel_rfl) (by kernel_rfl) (by kernel_rfl) (fun _ _ _ h => h) (Or.inl ⟨by rfl, ?_⟩) (by assumption) ?_
  rotate_left
  · (intro wq hSw; (try dsimp only at hSw); go_simp)
    all_goals with_reducible rfl
  (try simp only [List.getElem_toArray, List.getElem_cons_zero, List.getElem_cons_succ, Act.put, List.setIfInBounds_toArray, List.set_cons_zero, List.set_cons_succ])
  refine wpAnyH_take (i := 26) (v := ?_) rfl (by kernel_rfl) (by kernel_rfl) (by kernel_rfl) (fun _ _ _ h => h) (Or.inl ⟨by rfl, ?_⟩) (by assumption) ?_
  rotate_left
  · (intro wq hSw; (try dsimp only at hSw); go_simp)
    all_goals with_reducible rfl
  (try simp only [List.getElem_toArray, List.getElem_cons_zero, List.getElem_cons_succ, Act.put, List.setIfInBounds_toArray, List.set_cons_zero, List.set_cons_succ])
  refine wpAnyH_take (i := 27) (v := ?_) rfl (by kernel_rfl) (by kernel_rfl) (by kernel_rfl) (fun _ _ _ h => h) (Or.inl ⟨by rfl, ?_⟩) (by assumption) ?_
  rotate_left
  · (intro wq hSw; (try dsimp only at hSw); go_simp)
    all_goals with_reducible rfl
  (try simp only [List.getElem_toArray, List.getElem_cons_zero, List.getElem_cons_succ, Act.put, List.setIfInBounds_toArray, List.set_cons_zero, List.set_cons_succ])
  refine wpAnyH_take (i := 28) (v := ?_) rfl (by kernel_rfl) (by kernel_rfl) (by kernel_rfl) (fun _ _ _ h => h) (Or.inl ⟨by rfl, ?_⟩) (by assumption) ?_
  rotate_left
  · (intro wq hSw; (try dsimp only at hSw); go_simp)
    all_goals with_reducible rfl
  (try simp only [List.getElem_toArray, List.getElem_cons_zero, List.getElem_cons_succ, Act.put, List.setIfInBounds_toArray, List.set_cons_zero, List.set_cons_succ])
  refine wpAnyH_take (i := 29) (v := ?_) rfl (by kernel_rfl) (by kernel_rfl) (by kernel_rfl) (fun _ _ _ h => h) (Or.inl ⟨by rfl, ?_⟩) (by assumption) ?_
  rotate_left
  · (intro wq hSw; (try dsimp only at hSw); go_simp)
    all_goals with_reducible rfl
  (try simp only [List.getElem_toArray, List.getElem_cons_zero, List.getElem_cons_succ, Act.put, List.setIfInBounds_toArray, List.set_cons_zero, List.set_cons_succ])
  refine wpAnyH_take (i := 30) (v := ?_) rfl (by kernel_rfl) (by kernel_rfl) (by kernel_rfl) (fun _ _ _ h => h) (Or.inl ⟨by rfl, ?_⟩) (by assumption) ?_
  rotate_left
  · (intro wq hSw; (try dsimp only at hSw); go_simp)
    all_goals with_reducible rfl
  (try simp only [List.getElem_toArray, List.getElem_cons_zero, List.getElem_cons_succ, Act.put, List.setIfInBounds_toArray, List.set_cons_zero, List.set_cons_succ])
  refine wpAnyH_take (i := 31) (v := ?_) rfl (by kernel_rfl) (by kernel_rfl) (by kernel_rfl) (fun _ _ _ h => h) (Or.inl ⟨by rfl, ?_⟩) (by assumption) ?_
  rotate_left
  · (intro wq hSw; (try dsimp only at hSw); go_simp)
    all_goals with_reducible rfl
  (try simp only [List.getElem_toArray, List.getElem_cons_zero, List.getElem_cons_succ, Act.put, List.setIfInBounds_toArray, List.set_cons_zero, List.set_cons_succ])
  refine wpAnyH_ready (rs := [25]) (by kernel_rfl) (by simp) ?_
  refine AllReadyH.cons rfl (fun K' hK' => ?_) AllReadyH.nil
  go_simp
  refine (living_any w.heap.size w.heap.size l5 tick _ HX7.out.1 hz7 (by omega)).mono ?_
  rintro e w8 ⟨A8, n8, c8, l8, rfl, hm8, ho8, hk8, hb8⟩
  obtain ⟨A8', c8', hv8⟩ := own_form ho8
  have hn8 : n8 = l8.length := by injection hv8
  subst hn8
  have g8 := bat hb8 hp7 g7
  have hp8 : w.heap.size + 1 < w8.heap.size := Nat.lt_of_lt_of_le hp7 hb8.size
  have HX8 : Hid (Sils w8 w.heap.size 24 (.slice A8 l8.length c8) l8 ∧ l8.map Prod.fst = livingM sl2 tick ∧ ScSt w w8 l5 l5' (.slice (some ⟨b, off, none⟩) lo.length c1) lo) := ⟨⟨Seq.of_own ho8, hk8⟩, by rw [hm8, HM5.out.1], HX7.out.next hb8⟩
  have hz8 : w.heap.size ≤ w8.heap.size := HX8.out.2.2.2.2.2.size
  have j8 := OpsAt.tick12 HX8.out.2.2.2.2.1 HX.out
  clear hm8 ho8 hk8 hb8 hv8
  go_wp2_with fail
  refine hK'.out _ _ ?_ (fun hHeld => ?_)
  · exact ⟨j8, g8⟩
  clear hK' K'
  (try simp only [List.getElem_toArray, List.getElem_cons_zero, List.getElem_cons_succ, Act.put, List.setIfInBounds_toArray, List.set_cons_zero, List.set_cons_succ])
  refine wpAnyH_ready (rs := [32]) (by kernel_rfl) (by simp) ?_
  refine AllReadyH.cons rfl (fun K' hK' => ?_) AllReadyH.nil
  go_simp
  refine (rliving_any (w.heap.size + 1) w.heap.size l5' tick _ HX8.out.2.2.2.1 hz8 (by omega)).mono ?_
  rintro e w9 ⟨A9, n9, c9, l9, rfl, hm9, ho9, hk9, hb9⟩
  obtain ⟨A9', c9', hv9⟩ := own_form ho9
  have hn9 : n9 = l9.length := by injection hv9
  subst hn9
  have g9 := bat hb9 hp8 g8
  have hp9 : w.heap.size + 1 < w9.heap.size := Nat.lt_of_lt_of_le hp8 hb9.size
  have HX9 : Hid (Sils w9 w.heap.size 24 (.slice A8 l8.length c8) l8 ∧ Sils w9 w.heap.size 24 (.slice A9 l9.length c9) l9 ∧ l8.map Prod.fst = l9.map Prod.fst ∧ ScSt w w9 l5 l5' (.slice (some ⟨b, off, none⟩) lo.length c1) lo) := ⟨HX8.out.1.below hb9, ⟨Seq.of_own ho9, hk9⟩, by rw [hm9, HX8.out.2.1, HM5.out.2], HX8.out.2.2.next hb9⟩
  have j9 := OpsAt.tick12 HX9.out.2.2.2.2.2.1 HX.out
  clear hm9 ho9 hk9 hb9 hv9
  go_wp2_with fail
  refine hK'.out _ _ ?_ (fun hHeld => ?_)
  · exact ⟨j9, g9⟩
  clear hK' K'
  (try simp only [List.getElem_toArray, List.getElem_cons_zero, List.getElem_cons_succ, Act.put, List.setIfInBounds_toArray, List.set_cons_zero, List.set_cons_succ])
  refine wpAnyH_ready (rs := [33]) (by kernel_rfl) (by simp) ?_
  refine AllReadyH.cons rfl (fun K' hK' => ?_) AllReadyH.nil
  go_simp
  refine (same_any _ _ _ _ _ _ w.heap.size l8 l9 _ HX9.out.1 HX9.out.2.1 HX9.out.2.2.1).mono ?_
  rintro e w10 ⟨rfl, hb10⟩
  have g10 := bat hb10 hp9 g9
  have HX10 : Hid (ScSt w w10 l5 l5' (.slice (some ⟨b, off, none⟩) lo.length c1) lo) := HX9.out.2.2.2.next hb10
  have j10 := OpsAt.tick12 HX10.out.2.2.1 HX.out
  clear hb10
  go_wp2_with fail
  refine hK'.out _ _ ?_ (fun hHeld => ?_)
  · exact ⟨j10, g10⟩
  clear hK' K'
  (try simp only [List.getElem_toArray, List.getElem_cons_zero, List.getElem_cons_succ, Act.put, List.setIfInBounds_toArray, List.set_cons_zero, List.set_cons_succ])
  refine wpAnyH_take (i := 34) (v := ?_) rfl (by kernel_rfl) (by kernel_rfl) (by kernel_rfl) (fun _ _ _ h => h) (Or.inl ⟨by rfl, ?_⟩) (by assumption) ?_
  rotate_left
  · (intro wq hSw; (try dsimp only at hSw); go_simp)
    all_goals with_reducible rfl
  (try simp only [List.getElem_toArray, List.getElem_cons_zero, List.getElem_cons_succ, Act.put, List.setIfInBounds_toArray, List.set_cons_zero, List.set_cons_succ])
  refine wpAnyH_take (i := 35) (v := ?_) rfl (by kernel_rfl) (by kernel_rfl) (by kernel_rfl) (fun _ _ _ h => h) (Or.inl ⟨by rfl, ?_⟩) (by assumption) ?_
  rotate_left
  · (intro wq hSw; (try dsimp only at hSw); go_simp)
    all_goals with_reducible rfl
  (try simp only [List.getElem_toArray, List.getElem_cons_zero, List.getElem_cons_succ, Act.put, List.setIfInBounds_toArray, List.set_cons_zero, List.set_cons_succ])
  refine wpAnyH_done (by kernel_rfl) ?_ _
  refine HK.out _ _ ?_
  unfold ScPost
  (repeat apply Exists.intro)
  refine ⟨?_, rfl⟩
  exact ⟨⟨l5, l5', HX10.out.1, HX10.out.2.1, HM5.out.1, HM5.out.2⟩, HX10.out.2.2.1, HX10.out.2.2.2⟩
end Go.Proofs.Ytoafpajibeejlaa
