/- Units of trees, plain: what turning the declarations leaves, and quotients. -/
import Derived.Test.YtgomgoacponbkaaDoorQt
set_option linter.unusedVariables false
set_option linter.unusedSimpArgs false
namespace Go.Proofs.YtgomgoacponbkaaDoor
open Go.RowKit FracM

theorem selU_mem (us vs : List U3) (fn : Int) (h : ∀ x, x ∈ us ↔ x ∈ vs) : selU us fn = selU vs fn := by
  cases us with
  | nil =>
    cases vs with
    | nil => rfl
    | cons v vs => exact absurd ((h v).2 (by simp)) (by simp)
  | cons u us =>
    cases vs with
    | nil => exact absurd ((h u).1 (by simp)) (by simp)
    | cons v vs =>
      have e1 : (u :: us).all okU = (v :: vs).all okU := by
        rw [Bool.eq_iff_iff, List.all_eq_true, List.all_eq_true]
        exact ⟨fun g x hx => g x ((h x).2 hx), fun g x hx => g x ((h x).1 hx)⟩
      have e2 : us.all (fun x => x == u) = vs.all (fun x => x == v) := by
        rw [Bool.eq_iff_iff, List.all_eq_true, List.all_eq_true]
        constructor
        · intro g x hx
          have a : ∀ y ∈ v :: vs, y = u := fun y hy => by
            rcases List.mem_cons.1 ((h y).2 hy) with e | e
            · exact e
            · exact eq_of_beq (g y e)
          rw [a x (by simp [hx]), a v (by simp)]; exact beq_self_eq_true u
        · intro g x hx
          have a : ∀ y ∈ u :: us, y = v := fun y hy => by
            rcases List.mem_cons.1 ((h y).1 hy) with e | e
            · exact e
            · exact eq_of_beq (g y e)
          rw [a x (by simp [hx]), a u (by simp)]; exact beq_self_eq_true v
      unfold selU
      simp only [e1, e2]
      split
      · rfl
      · split
        · rfl
        · next h2 =>
          have e3 : u = v := by
            rcases List.mem_cons.1 ((h u).1 (by simp)) with e | e
            · exact e
            · have := h2
              simp only [Bool.not_eq_false] at this
              rw [List.all_eq_true] at this
              exact eq_of_beq (this u e)
          rw [e3]
theorem unit_congr {ns : List ByteArray} {most : Int} (D E : List Dc) (hD : ∀ d : Nd, d.name ∈ ns → ∀ x, x ∈ hits D d ↔ x ∈ hits E d) {t : Tree} (h : GoodT ns most t) : unitM D t = unitM E t := by
  induction h with
  | mk d ks h hk ih =>
    have e : unitL D ks = unitL E ks := by
      clear h hk
      induction ks with
      | nil => rfl
      | cons t ts ih2 => rw [unitL, unitL, ih t (by simp), ih2 (fun x hx => ih x (by simp [hx]))]
    rw [unitM, unitM, e]
    have e2 : ∀ us, finM D d ks us = finM E d ks us := by
      intro us
      unfold finM
      split
      · next hk1 =>
        have hn : d.name ∈ ns := by
          generalize ks.length = n at h
          cases h <;> simp_all
        exact selU_mem _ _ _ (hD d hn)
      · rfl
    rw [e2]
theorem of_congr {ns : List ByteArray} {most : Int} (D E : List Dc) (hD : ∀ d : Nd, d.name ∈ ns → ∀ x, x ∈ hits D d ↔ x ∈ hits E d) {t : Tree} (h : GoodT ns most t) : ofM D t = ofM E t := by
  unfold ofM; rw [unit_congr D E hD h]
theorem turned_hits (D : List Dc) (o : Dc) (k : Nat) (ns : List ByteArray) (ho : ∀ x ∈ ns, (o.1.toList == x.toList) = false) (d : Nd) (hd : d.name ∈ ns) (x : U3) : x ∈ hits D d ↔ x ∈ hits (D.drop k ++ o :: D.take k) d := by
  unfold hits
  have hf : hitB d o = false := by unfold hitB; rw [ho _ hd]; rfl
  conv => lhs; rw [← List.take_append_drop k D]
  simp only [List.filter_append, List.filter_cons, hf, List.map_append, List.mem_append]
  constructor
  · intro h; rcases h with h | h
    · exact .inr (by simpa using h)
    · exact .inl h
  · intro h; rcases h with h | h
    · exact .inr h
    · exact .inl (by simpa using h)

theorem lim_ok {u v : U3} (h : limU u = (v, 0)) : okU v = true := by
  unfold limU at h
  split at h
  · next ho => cases h; exact ho
  · cases h
theorem okU0 : okU u0 = true := rfl
theorem sel_ok {us : List U3} {fn : Int} {v : U3} (h : selU us fn = (v, 0)) : okU v = true := by
  cases us with
  | nil => simp [selU] at h
  | cons u us =>
    unfold selU at h
    simp only at h
    split at h
    · cases h
    · split at h
      · cases h
      · exact lim_ok h
theorem unit_ok (D : List Dc) : ∀ t u, unitM D t = (u, 0) → okU u = true := by
  refine Tree.ind ?_
  intro d ks ih u h
  rw [unitM] at h
  have hL : ∀ ts : List Tree, (∀ t ∈ ts, t ∈ ks) → (unitL D ts).2 = 0 → ∀ v ∈ (unitL D ts).1, okU v = true := by
    intro ts
    induction ts with
    | nil => intro _ _ v hv; simp [unitL] at hv
    | cons t ts ih2 =>
      intro hm h0 v hv
      rw [unitL] at h0 hv
      by_cases ht : (unitM D t).2 = 0
      · rw [if_pos ht] at h0 hv
        rcases List.mem_cons.1 hv with e | e
        · rw [e]; exact ih t (hm t (by simp)) _ (Prod.ext rfl ht)
        · exact ih2 (fun x hx => hm x (by simp [hx])) h0 v e
      · rw [if_neg ht] at h0; exact absurd h0 ht
  by_cases h0 : (unitL D ks).2 = 0
  · rw [if_pos h0] at h
    have hA := hL ks (fun _ h => h) h0
    generalize (unitL D ks).1 = us at h hA
    unfold finM at h
    split at h
    · exact sel_ok h
    · split at h
      · split at h
        · cases h
        · split at h
          · cases h; exact okU0
          · cases us with
            | nil => simp at h; rw [← h]; exact okU0
            | cons x xs => simp at h; rw [← h]; exact hA x (by simp)
      · split at h
        · unfold binM at h
          split at h
          · split at h
            · cases h
            · split at h
              · exact lim_ok h
              · split at h
                · exact lim_ok h
                · split at h
                  · cases h; exact hA _ (by simp)
                  · cases h
          · cases h; exact okU0
        · cases h; exact okU0
  · rw [if_neg h0] at h; exact absurd (congrArg Prod.snd h) h0
theorem okU_in {u : U3} (h : okU u = true) : (-3 ≤ u.1 ∧ u.1 ≤ 3) ∧ (-3 ≤ u.2.1 ∧ u.2.1 ≤ 3) ∧ (-3 ≤ u.2.2 ∧ u.2.2 ≤ 3) := by
  simpa [okU, in3, and_assoc] using h
theorem sub_self (u : U3) : subU u u = u0 := by
  unfold subU u0; simp only [Int.sub_self]; rfl
theorem add_zero {u : U3} (h : okU u = true) : addU u0 u = u := by
  obtain ⟨h1, h2, h3⟩ := okU_in h
  obtain ⟨a, b, c⟩ := u
  simp only at h1 h2 h3
  unfold addU u0
  simp only [Int.zero_add]
  rw [W64_in (by omega) (by omega), W64_in (by omega) (by omega), W64_in (by omega) (by omega)]
theorem rl_zero {ns : List ByteArray} {most : Int} (D : List Dc) {t : Tree} (h : GoodT ns most t) : rlB t = true → ∀ u, unitM D t = (u, 0) → u = u0 := by
  induction h with
  | mk d ks h hk ih =>
    intro hr u hu
    rw [rlB] at hr
    rw [unitM] at hu
    generalize hl : ks.length = n at h
    cases h with
    | num x hx =>
      obtain rfl := List.eq_nil_of_length_eq_zero hl
      simp [unitL, finM] at hu; exact hu.symm
    | sel => simp at hr
    | grp => simp at hr
    | bin fn h1 h2 =>
      match ks, hl with
      | [a, b], _ =>
        simp [rlL] at hr
        have ia := ih a (by simp) hr.1
        have ib := ih b (by simp) hr.2
        by_cases e1 : (unitM D a).2 = 0
        · by_cases e2 : (unitM D b).2 = 0
          · have ua := ia _ (Prod.ext rfl e1)
            have ub := ib _ (Prod.ext rfl e2)
            have z1 : limU (addU u0 u0) = (u0, 0) := rfl
            have z2 : limU (subU u0 u0) = (u0, 0) := rfl
            simp [unitL, e1, e2, ua, ub, finM, binM, hr.1, z1, z2] at hu
            exact hu.symm
          · simp [unitL, e1, e2] at hu
        · simp [unitL, e1] at hu

/-- the expressions of the law -/
def qN (fn : Int) : Nd := ⟨3, fn, 0, 0, 0, 0, 0, ⟨#[]⟩, [], []⟩
def qT (fn : Int) (a b : Tree) : Tree := .node (qN fn) [a, b]
def cN : Nd := ⟨2, 3, 0, 0, 0, 0, 0, ⟨#[]⟩, [], []⟩
def cT (e : Tree) : Tree := .node cN [e]
theorem qT_good {ns : List ByteArray} {most : Int} {a b : Tree} (fn : Int) (h1 : 0 ≤ fn) (h2 : fn < 4) (ha : GoodT ns most a) (hb : GoodT ns most b) : GoodT ns most (qT fn a b) :=
  .mk _ _ (.bin fn h1 h2) (fun t ht => by simp at ht; rcases ht with rfl | rfl <;> assumption)
theorem cT_good {ns : List ByteArray} {most : Int} {a : Tree} (ha : GoodT ns most a) : GoodT ns most (cT a) :=
  .mk _ _ (.grp 3 0 [] (by omega) (by omega) (.inl ⟨by omega, rfl⟩) (List.nil_sublist _)) (fun t ht => by simp at ht; rcases ht with rfl; assumption)
theorem qT_size (fn : Int) (a b : Tree) : dep (qT fn a b) = max (dep a) (dep b) + 1 ∧ nds (qT fn a b) = nds a + nds b + 1 := by
  unfold qT; rw [dep, nds, depL, depL, depL, ndsL, ndsL, ndsL]; omega
theorem cT_size (a : Tree) : dep (cT a) = dep a + 1 ∧ nds (cT a) = nds a + 1 := by
  unfold cT; rw [dep, nds, depL, depL, ndsL, ndsL]; omega
theorem unitM_bad {D : List Dc} {d : Nd} {t : Tree} {ts : List Tree} (h : (unitM D t).2 ≠ 0) : unitM D (.node d (t :: ts)) = (u0, (unitM D t).2) := by
  rw [unitM, unitL, if_neg h, if_neg h]
theorem quot_bad {D : List Dc} {e : Tree} (h : (unitM D e).2 ≠ 0) : unitM D (qT 3 e e) = (u0, (unitM D e).2) ∧ unitM D (qT 1 e e) = (u0, (unitM D e).2) ∧ unitM D (qT 2 (qT 3 e e) e) = (u0, (unitM D e).2) ∧ unitM D (cT e) = (u0, (unitM D e).2) := by
  have h1 : unitM D (qT 3 e e) = (u0, (unitM D e).2) := unitM_bad h
  refine ⟨h1, unitM_bad h, ?_, unitM_bad h⟩
  have h2 : (unitM D (qT 3 e e)).2 ≠ 0 := by rw [h1]; exact h
  have := unitM_bad (d := qN 2) (ts := [e]) h2
  rw [h1] at this
  exact this
theorem q_same (D : List Dc) (e : Tree) {u : U3} (h : unitM D e = (u, 0)) : unitM D (qT 3 e e) = (u0, 0) ∧ unitM D (qT 1 e e) = (u, 0) := by
  have z : limU u0 = (u0, 0) := rfl
  constructor
  · unfold qT; rw [unitM]; simp [unitL, h, finM, binM, qN, sub_self, z]
  · unfold qT; rw [unitM]; simp [unitL, h, finM, binM, qN]
theorem q_prod (D : List Dc) (e : Tree) {u : U3} (h : unitM D e = (u, 0)) : unitM D (qT 2 (qT 3 e e) e) = (u, 0) := by
  have h1 := (q_same D e h).1
  have ho := unit_ok D e u h
  have z : limU u = (u, 0) := by unfold limU; rw [if_pos ho]
  have hr : rlB (qT 3 e e) = rlB e := by unfold qT; rw [rlB]; simp [qN, rlL]
  have hw : rlB e = false → rw1 (qT 3 e e) = rw1 e := by
    intro h; unfold qT; rw [rw1]; simp [qN, rwL, h]
  unfold qT at h1 hr hw ⊢
  rw [unitM]
  simp only [unitL, h1, h, finM, binM, hr]
  simp only [qN]
  by_cases hrl : rlB e = true
  · simp [hrl, add_zero ho, z]
  · have hrl : rlB e = false := by simpa using hrl
    have hw := hw hrl
    unfold qN at hw
    simp [hrl, hw, add_zero ho, z]
theorem q_count (D : List Dc) (e : Tree) {u : U3} (h : unitM D e = (u, 0)) : unitM D (cT e) = (u0, if rlB e then 7 else 0) := by
  unfold cT; rw [unitM]
  simp [unitL, h, finM, cN, rlL]
  cases rlB e <;> simp
end Go.Proofs.YtgomgoacponbkaaDoor
