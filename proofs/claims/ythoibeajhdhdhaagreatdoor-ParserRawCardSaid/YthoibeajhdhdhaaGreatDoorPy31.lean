/- Contracts, packed: Od. -/
import Derived.Test.YthoibeajhdhdhaaGreatDoorPy3
import Derived.Test.YthoibeajhdhdhaaGreatDoorPy12
import Derived.Test.YthoibeajhdhdhaaGreatDoorPy14
import Derived.Test.YthoibeajhdhdhaaGreatDoorPy30
import Derived.StillTailTactics
set_option linter.unusedVariables false
set_option linter.unusedSimpArgs false
namespace Go.Proofs.YthoibeajhdhdhaaGreatDoor
section
open Go.RowKit FracM
/-- words begin with a letter, symbols do not -/
structure TokWf (t : Tok) : Prop where
 w : t.kind = 0 → ∃ ch r, t.text = ch :: r ∧ letB ch = true
 s : t.kind = 3 → ∃ ch r, t.text = ch :: r ∧ letB ch = false
theorem Blk.c5 {w : World} {b : Nat} {t : TypeId} {v0 v1 v2 v3 v4 : Value} (h : Blk w b t #[v0, v1, v2, v3, v4]) : w.cell? ⟨b, 0, none⟩ = some v0 ∧ w.cell? ⟨b, 1, none⟩ = some v1 ∧ w.cell? ⟨b, 2, none⟩ = some v2 ∧ w.cell? ⟨b, 3, none⟩ = some v3 ∧ w.cell? ⟨b, 4, none⟩ = some v4 := by
 unfold Blk at h
 refine ⟨?_, ?_, ?_, ?_, ?_⟩ <;> simp [World.cell?, h]
/-- the parser in block g: the tokens, the index of the next one, the length of the source, the first error -/
structure RP (w : World) (g : Nat) (A : Option Addr) (c : Nat) (N : Int) (toks : List Tok) (i : Nat) (a e : Int) : Prop where
 mem : Blk w g 105 #[.slice A toks.length c, .int .i64 (i : Int), .int .i64 N, .int .i64 a, .int .i64 e]
 seq : SeqP w (fun b _ => b < g) 4 (.slice A toks.length c) toks.length (toks.flatMap tokL)
 ok : ∀ t ∈ toks, TokOk t
 wf : ∀ t ∈ toks, TokWf t
 en0 : 0 ≤ N ∧ N ≤ 2000
 le : i ≤ toks.length
 sm : toks.length ≤ 2000
theorem RP.below {w w' : World} {g : Nat} {A : Option Addr} {c : Nat} {N : Int} {toks : List Tok} {i : Nat} {a e : Int} (h : RP w g A c N toks i a e) (hb : Below w.heap.size w w') : RP w' g A c N toks i a e :=
 ⟨h.mem.below hb, h.seq.keep (Agree.of_below hb), h.ok, h.wf, h.en0, h.le, h.sm⟩
theorem RP.drewN {w : World} {g : Nat} {A : Option Addr} {c : Nat} {N : Int} {toks : List Tok} {i : Nat} {a e : Int} (h : RP w g A c N toks i a e) (n : Nat) : RP (w.drewN n) g A c N toks i a e := h.below (below_drewN _ _)
theorem RP.put {w w' : World} {g : Nat} {A : Option Addr} {c : Nat} {N : Int} {toks : List Tok} {i i' : Nat} {a e a' e' : Int} (h : RP w g A c N toks i a e) (ho : Only g w w') (hb : Blk w' g 105 #[.slice A toks.length c, .int .i64 (i' : Int), .int .i64 N, .int .i64 a', .int .i64 e']) (hi : i' ≤ toks.length) : RP w' g A c N toks i' a' e' :=
 ⟨hb, h.seq.keep (Agree.of_only ho fun _ _ hx => Nat.ne_of_lt hx), h.ok, h.wf, h.en0, hi, h.sm⟩
theorem RP.only {w w' : World} {g k : Nat} {A : Option Addr} {c : Nat} {N : Int} {toks : List Tok} {i : Nat} {a e : Int} (h : RP w g A c N toks i a e) (ho : Only k w w') (hk : g < k) : RP w' g A c N toks i a e :=
 ⟨ho.blk h.mem (by omega), h.seq.keep (Agree.of_only ho fun _ _ hx => by omega), h.ok, h.wf, h.en0, h.le, h.sm⟩
/-- the token at hand -/
theorem RP.tok {w : World} {g : Nat} {A : Option Addr} {c : Nat} {N : Int} {toks : List Tok} {i : Nat} {a e : Int} (h : RP w g A c N toks i a e) {k : Nat} {t : Tok} (ht : toks[k]? = some t) : ∃ b off, A = some ⟨b, off, none⟩ ∧ b < w.heap.size ∧ b ≠ g ∧ toks.length ≤ c ∧ c ≤ maxLen ∧
  w.cell? ⟨b, off + k * 4, none⟩ = some (.int .i64 t.kind) ∧ w.cell? ⟨b, off + k * 4 + 1, none⟩ = some (.string (bsL t.text)) ∧ w.cell? ⟨b, off + k * 4 + 2, none⟩ = some (.int .i64 t.n) ∧ w.cell? ⟨b, off + k * 4 + 3, none⟩ = some (.int .i64 (t.off : Int)) := by
 obtain ⟨_, A', c', hv, h3, h4, h5⟩ := h.seq
 cases hv
 have hk := (List.getElem?_eq_some_iff.1 ht).1
 obtain ⟨b, off, rfl, hb, hp, hx⟩ := h5 (by omega)
 refine ⟨b, off, rfl, hb, Nat.ne_of_lt hp, h3, h4, ?_, ?_, ?_, ?_⟩
 ·exact hx (k * 4) _ ((tok_get toks k 0 t ht (by omega)).trans rfl)
 ·rw [Nat.add_assoc]; exact hx (k * 4 + 1) _ ((tok_get toks k 1 t ht (by omega)).trans rfl)
 ·rw [Nat.add_assoc]; exact hx (k * 4 + 2) _ ((tok_get toks k 2 t ht (by omega)).trans rfl)
 ·rw [Nat.add_assoc]; exact hx (k * 4 + 3) _ ((tok_get toks k 3 t ht (by omega)).trans rfl)
theorem drop_nil {toks : List Tok} {i : Nat} (h : toks.drop i = []) (hl : i ≤ toks.length) : i = toks.length := by
 have := congrArg List.length h
 rw [List.length_drop, List.length_nil] at this
 omega
theorem drop_cons {toks : List Tok} {i : Nat} {t : Tok} {r : List Tok} (h : toks.drop i = t :: r) : toks[i]? = some t ∧ toks.drop (i + 1) = r ∧ i < toks.length := by
 have hl : i < toks.length := by
  have := congrArg List.length h
  rw [List.length_drop, List.length_cons] at this
  omega
 rw [List.drop_eq_getElem_cons hl] at h
 injection h with h1 h2
 exact ⟨by rw [List.getElem?_eq_getElem hl, h1], h2, hl⟩
def kindZ (ts : List Tok) : Int := match ts with | [] => -1 | t :: _ => t.kind
/-- the token at hand is this word or symbol -/
def isX (ts : List Tok) (x : List UInt8) : Bool := match ts with | [] => false | t :: _ => (t.kind == 0 || t.kind == 3) && t.text == x
set_option maxHeartbeats 1000000 in
theorem rkind_any {w : World} {g : Nat} {A : Option Addr} {c : Nat} {N : Int} {toks : List Tok} {i : Nat} {a e : Int} (h : RP w g A c N toks i a e) : Calls Tryz.prog 130 #[.pointer (some ⟨g, 0, none⟩)] w fun e' w' => e' = .returned (.int .i64 (kindZ (toks.drop i))) ∧ ∃ m, w' = w.drewN m := by
 have hle := h.le
 have hsm := h.sm
 obtain ⟨c0, c1, c2, c3, c4⟩ := h.mem.c5
 cases hd : toks.drop i with
 | nil =>
  have hge : (toks.length : Int) ≤ (i : Int) := by have := drop_nil hd hle; omega
  clear h hd
  go_enter Tryz.func130, Tryz.ntmps130
  go_upto_region 1 with (fail)
  go_quiet (fail)
  go_wp2_with fail
  go_ret
  exact ⟨rfl, _, rfl⟩
 | cons t r =>
  obtain ⟨ht, -, hlt⟩ := drop_cons hd
  obtain ⟨b, off, rfl, hb, hne, -, -, k0, k1, k2, k3⟩ := h.tok ht
  have hlt2 : (i : Int) < (toks.length : Int) := by omega
  have hge : ¬ (toks.length : Int) ≤ (i : Int) := by omega
  have hi0 : (0 : Int) ≤ (i : Int) := by omega
  clear h hd ht
  go_enter Tryz.func130, Tryz.ntmps130
  go_upto_region 1 with (fail)
  go_quiet (fail)
  go_upto_region 3 with (fail)
  go_quiet (fail)
  go_wp2_with fail
  go_ret
  exact ⟨rfl, _, rfl⟩
theorem rkind_q {w : World} {g : Nat} {A : Option Addr} {c : Nat} {N : Int} {toks : List Tok} {i : Nat} {a e : Int} (h : RP w g A c N toks i a e) (n : Nat) : Calls Tryz.prog 130 #[.pointer (some ⟨g, 0, none⟩)] (w.drewN n) fun e' w' => e' = .returned (.int .i64 (kindZ (toks.drop i))) ∧ ∃ m, w' = (w.drewN n).drewN m := rkind_any (h.drewN n)
set_option maxHeartbeats 1000000 in
theorem ris_any {w : World} {g : Nat} {A : Option Addr} {c : Nat} {N : Int} {toks : List Tok} {i : Nat} {a e : Int} (x : List UInt8) (u : ByteArray) (hu : u = bsL x) (h : RP w g A c N toks i a e) : Calls Tryz.prog 105 #[.pointer (some ⟨g, 0, none⟩), .string u] w fun e' w' => e' = .returned (.bool (isX (toks.drop i) x)) ∧ ∃ m, w' = w.drewN m := by
 have hle := h.le
 have hsm := h.sm
 have H := Box.mk h
 obtain ⟨c0, c1, c2, c3, c4⟩ := h.mem.c5
 cases hd : toks.drop i with
 | nil =>
  have HD := Box.mk hd
  have HKQ : Box (∀ n, Calls Tryz.prog 130 #[.pointer (some ⟨g, 0, none⟩)] (w.drewN n) fun e' w' => e' = .returned (.int .i64 (-1)) ∧ ∃ m, w' = (w.drewN n).drewN m) := ⟨fun n => by have hk := rkind_q H.out n; rw [HD.out] at hk; exact hk⟩
  clear h hd
  go_enter Tryz.func105, Tryz.ntmps105
  go_upto_region 1 with (fail)
  go_quiet ((go_at_call 130; exact Calls.quiet_of (HKQ.out _)))
  go_wp2_with fail
  go_ret
  exact ⟨rfl, _, rfl⟩
 | cons t r =>
  have HD := Box.mk hd
  obtain ⟨ht, -, hlt⟩ := drop_cons hd
  obtain ⟨b, off, rfl, hb, hne, -, -, k0, k1, k2, k3⟩ := h.tok ht
  have hlt2 : (i : Int) < (toks.length : Int) := by omega
  have hi0 : (0 : Int) ≤ (i : Int) := by omega
  obtain ⟨z, hz⟩ : ∃ z, ((bsL t.text).toList == u.toList) = z := ⟨_, rfl⟩
  have HZ : Box ((t.text == x) = z) := ⟨by rw [← hz, hu, bsL_beq]⟩
  obtain ⟨tx, htx⟩ : ∃ tx, bsL t.text = tx := ⟨_, rfl⟩
  rw [htx] at k1 hz
  obtain ⟨kz, hkz⟩ : ∃ kz, t.kind = kz := ⟨_, rfl⟩
  have HK : Box (kindZ (t :: r) = kz) := ⟨hkz⟩
  have HX : Box (isX (t :: r) x = ((kz == 0 || kz == 3) && z)) := ⟨by show ((t.kind == 0 || t.kind == 3) && t.text == x) = _; rw [hkz, HZ.out]⟩
  rw [HX.out]
  have HKQ : Box (∀ n, Calls Tryz.prog 130 #[.pointer (some ⟨g, 0, none⟩)] (w.drewN n) fun e' w' => e' = .returned (.int .i64 kz) ∧ ∃ m, w' = (w.drewN n).drewN m) := ⟨fun n => by have hk := rkind_q H.out n; rw [HD.out] at hk; rw [HK.out] at hk; exact hk⟩
  clear h hd ht hu htx hkz
  by_cases h0 : kz = 0
  ·subst h0
   go_enter Tryz.func105, Tryz.ntmps105
   go_upto_region 1 with (fail)
   go_quiet ((go_at_call 130; exact Calls.quiet_of (HKQ.out _)))
   go_wp2_with fail
   go_ret
   exact ⟨ret_bool (by simp), _, rfl⟩
  ·have e0 : (kz == 0) = false := by simp [h0]
   by_cases h3 : kz = 3
   ·subst h3
    go_enter Tryz.func105, Tryz.ntmps105
    go_upto_region 1 with (fail)
    go_quiet ((go_at_call 130; exact Calls.quiet_of (HKQ.out _)))
    go_wp2_with fail
    go_ret
    exact ⟨ret_bool (by simp), _, rfl⟩
   ·have e3 : (kz == 3) = false := by simp [h3]
    clear h0 h3
    go_enter Tryz.func105, Tryz.ntmps105
    go_upto_region 1 with (fail)
    go_quiet ((go_at_call 130; exact Calls.quiet_of (HKQ.out _)))
    go_wp2_with fail
    go_ret
    exact ⟨ret_bool (by rw [e0, e3]; rfl), _, rfl⟩
set_option maxHeartbeats 1000000 in
theorem rfail_bad {w : World} {g : Nat} {A : Option Addr} {c : Nat} {N : Int} {toks : List Tok} {i : Nat} {a e : Int} (er : Int) (he : e ≠ 0) (h : RP w g A c N toks i a e) : Calls Tryz.prog 69 #[.pointer (some ⟨g, 0, none⟩), .int .i64 er] w fun e' w' => e' = .returned (.tuple #[]) ∧ w' = w := by
 obtain ⟨c0, c1, c2, c3, c4⟩ := h.mem.c5
 have he2 : (e == 0) = false := by simp [he]
 clear h he
 go_enter Tryz.func69, Tryz.ntmps69
 go_wp2_with fail
 go_end0
 exact ⟨rfl, rfl⟩
set_option maxHeartbeats 2000000 in
set_option maxRecDepth 100000 in
theorem rfail_good {w : World} {g : Nat} {A : Option Addr} {c : Nat} {N : Int} {toks : List Tok} {i : Nat} {a : Int} (er : Int) (h : RP w g A c N toks i a 0) : Calls Tryz.prog 69 #[.pointer (some ⟨g, 0, none⟩), .int .i64 er] w fun e' w' => e' = .returned (.tuple #[]) ∧ Only g w w' ∧ RP w' g A c N toks i (failAt (toks.drop i) N) er := by
 have hle := h.le
 have hsm := h.sm
 have H := Box.mk h
 obtain ⟨c0, c1, c2, c3, c4⟩ := h.mem.c5
 have cf := h.mem.frozen
 have hg := h.mem.lt
 have H2 : Box (Only g w ((w.setCell ⟨g, 4, none⟩ (.int .i64 er)).setCell ⟨g, 3, none⟩ (.int .i64 N)) ∧ RP ((w.setCell ⟨g, 4, none⟩ (.int .i64 er)).setCell ⟨g, 3, none⟩ (.int .i64 N)) g A c N toks i N er) := by
  have ho : Only g w ((w.setCell ⟨g, 4, none⟩ (.int .i64 er)).setCell ⟨g, 3, none⟩ (.int .i64 N)) := (Only.setCell 4 _).trans (Only.setCell 3 _)
  exact ⟨ho, h.put ho (by simpa using (h.mem.set 4 (.int .i64 er)).set 3 (.int .i64 N)) hle⟩
 clear h
 cases hd : toks.drop i with
 | nil =>
  have hge : ¬ (i : Int) < (toks.length : Int) := by have := drop_nil hd hle; omega
  clear hd
  go_enter Tryz.func69, Tryz.ntmps69
  go_upto_region 3 with (fail)
  clear c0 c1 c2 c3 c4 cf
  generalize (w.setCell ⟨g, 4, none⟩ (.int .i64 er)).setCell ⟨g, 3, none⟩ (.int .i64 N) = W at H2 ⊢
  obtain ⟨c0, c1, c2, c3, c4⟩ := H2.out.2.mem.c5
  go_quiet (fail)
  go_wp2_with fail
  go_end0
  exact ⟨rfl, H2.out.1.trans (Only.of_below (below_drewN _ _)), H2.out.2.drewN _⟩
 | cons t r =>
  obtain ⟨ht, -, hlt⟩ := drop_cons hd
  have hlt2 : (i : Int) < (toks.length : Int) := by omega
  have hi0 : (0 : Int) ≤ (i : Int) := by omega
  have HT := Box.mk ht
  clear hd ht
  go_enter Tryz.func69, Tryz.ntmps69
  go_upto_region 3 with (fail)
  clear c0 c1 c2 c3 c4 cf
  generalize (w.setCell ⟨g, 4, none⟩ (.int .i64 er)).setCell ⟨g, 3, none⟩ (.int .i64 N) = W at H2 ⊢
  obtain ⟨c0, c1, c2, c3, c4⟩ := H2.out.2.mem.c5
  go_quiet (fail)
  go_upto_region 4 with (fail)
  have H3 : Box (Only g w (W.drewN nq) ∧ RP (W.drewN nq) g A c N toks i N er) := ⟨H2.out.1.trans (Only.of_below (below_drewN _ _)), H2.out.2.drewN _⟩
  generalize W.drewN nq = W3 at H3 ⊢
  clear c0 c1 c2 c3 c4 H2
  obtain ⟨b, off, rfl, hb, hne, -, -, k0, k1, k2, d2⟩ := H3.out.2.tok HT.out
  obtain ⟨d0, d1, -, d3, -⟩ := H3.out.2.mem.c5
  have df := H3.out.2.mem.frozen
  have HF : Box (Only g w (W3.drew.setCell ⟨g, 3, none⟩ (.int .i64 (t.off : Int))) ∧ RP (W3.drew.setCell ⟨g, 3, none⟩ (.int .i64 (t.off : Int))) g (some ⟨b, off, none⟩) c N toks i (t.off : Int) er) := by
   have ho : Only g W3.drew (W3.drew.setCell ⟨g, 3, none⟩ (.int .i64 (t.off : Int))) := Only.setCell 3 _
   have hr : RP W3.drew g (some ⟨b, off, none⟩) c N toks i N er := H3.out.2.drewN 1
   exact ⟨(H3.out.1.trans (Only.of_below (below_drewN W3 1))).trans ho, hr.put ho (by simpa using hr.mem.set 3 (.int .i64 (t.off : Int))) hle⟩
  obtain ⟨e0, e1, -, -, -⟩ := HF.out.2.mem.c5
  have e2 := (World.cell?_of_block (a := ⟨b, off + i * 4 + 3, none⟩) ((Only.setCell (g := g) (w := W3.drew) 3 (.int .i64 (t.off : Int))).block b hb hne)).trans (cell_drew d2)
  refine wp_region_H (S := (fun w' : World => w'.cell? ⟨g, 0, none⟩ = some (.slice (some ⟨b, off, none⟩) toks.length c) ∧ w'.cell? ⟨g, 1, none⟩ = some (.int .i64 (i : Int)) ∧ w'.cell? ⟨b, off + i * 4 + 3, none⟩ = some (.int .i64 (t.off : Int)))) (by kernel_rfl) (by exact ⟨cell_drew d0, cell_drew d1, cell_drew d2⟩) (fun hHeld => ?_)
  refine wpAnyH_take (i := 0) (v := ?_) rfl (by kernel_rfl) (by kernel_rfl) (by kernel_rfl) (fun _ _ _ h => h) (Or.inl ⟨by rfl, ?_⟩) (by assumption) ?_
  rotate_left
  ·(intro wq hSw; (try dsimp only at hSw); obtain ⟨hS1, hS2, hS3⟩ := hSw; go_simp)
   all_goals with_reducible rfl
  (try simp only [List.getElem_toArray, List.getElem_cons_zero, List.getElem_cons_succ, Act.put, List.setIfInBounds_toArray, List.set_cons_zero, List.set_cons_succ])
  refine wpAnyH_take (i := 1) (v := ?_) rfl (by kernel_rfl) (by kernel_rfl) (by kernel_rfl) (fun _ _ _ h => h) (Or.inl ⟨by rfl, ?_⟩) (by assumption) ?_
  rotate_left
  ·(intro wq hSw; (try dsimp only at hSw); obtain ⟨hS1, hS2, hS3⟩ := hSw; go_simp)
   all_goals with_reducible rfl
  (try simp only [List.getElem_toArray, List.getElem_cons_zero, List.getElem_cons_succ, Act.put, List.setIfInBounds_toArray, List.set_cons_zero, List.set_cons_succ])
  refine wpAnyH_take (i := 2) (v := ?_) rfl (by kernel_rfl) (by kernel_rfl) (by kernel_rfl) (fun _ _ _ h => h) (Or.inl ⟨by rfl, ?_⟩) (by assumption) ?_
  rotate_left
  ·(intro wq hSw; (try dsimp only at hSw); obtain ⟨hS1, hS2, hS3⟩ := hSw; go_simp)
   all_goals with_reducible rfl
  (try simp only [List.getElem_toArray, List.getElem_cons_zero, List.getElem_cons_succ, Act.put, List.setIfInBounds_toArray, List.set_cons_zero, List.set_cons_succ])
  refine wpAnyH_take (i := 3) (v := ?_) rfl (by kernel_rfl) (by kernel_rfl) (by kernel_rfl) (fun _ _ _ h => h) (Or.inl ⟨by rfl, ?_⟩) (by assumption) ?_
  rotate_left
  ·(intro wq hSw; (try dsimp only at hSw); obtain ⟨hS1, hS2, hS3⟩ := hSw; go_simp)
   all_goals with_reducible rfl
  (try simp only [List.getElem_toArray, List.getElem_cons_zero, List.getElem_cons_succ, Act.put, List.setIfInBounds_toArray, List.set_cons_zero, List.set_cons_succ])
  refine wpAnyH_take (i := 4) (v := ?_) rfl (by kernel_rfl) (by kernel_rfl) (by kernel_rfl) (fun _ _ _ h => h) (Or.inl ⟨by rfl, ?_⟩) (by assumption) ?_
  rotate_left
  ·(intro wq hSw; (try dsimp only at hSw); obtain ⟨hS1, hS2, hS3⟩ := hSw; go_simp)
   all_goals with_reducible rfl
  (try simp only [List.getElem_toArray, List.getElem_cons_zero, List.getElem_cons_succ, Act.put, List.setIfInBounds_toArray, List.set_cons_zero, List.set_cons_succ])
  refine wpAnyH_take (i := 5) (v := ?_) rfl (by kernel_rfl) (by kernel_rfl) (by kernel_rfl) (fun _ _ _ h => h) (Or.inl ⟨by rfl, ?_⟩) (by assumption) ?_
  rotate_left
  ·(intro wq hSw; (try dsimp only at hSw); obtain ⟨hS1, hS2, hS3⟩ := hSw; go_simp)
   all_goals with_reducible rfl
  (try simp only [List.getElem_toArray, List.getElem_cons_zero, List.getElem_cons_succ, Act.put, List.setIfInBounds_toArray, List.set_cons_zero, List.set_cons_succ])
  refine wpAnyH_take (i := 6) (v := ?_) rfl (by kernel_rfl) (by kernel_rfl) (by kernel_rfl) (fun _ _ _ h => h) (Or.inl ⟨by rfl, ?_⟩) (by assumption) ?_
  rotate_left
  ·(intro wq hSw; (try dsimp only at hSw); obtain ⟨hS1, hS2, hS3⟩ := hSw; go_simp)
   all_goals with_reducible rfl
  (try simp only [List.getElem_toArray, List.getElem_cons_zero, List.getElem_cons_succ, Act.put, List.setIfInBounds_toArray, List.set_cons_zero, List.set_cons_succ])
  refine wpAnyH_take (i := 7) (v := ?_) rfl (by kernel_rfl) (by kernel_rfl) (by kernel_rfl) (fun _ _ _ h => h) (Or.inl ⟨by rfl, ?_⟩) (by assumption) ?_
  rotate_left
  ·(intro wq hSw; (try dsimp only at hSw); obtain ⟨hS1, hS2, hS3⟩ := hSw; go_simp)
   all_goals with_reducible rfl
  (try simp only [List.getElem_toArray, List.getElem_cons_zero, List.getElem_cons_succ, Act.put, List.setIfInBounds_toArray, List.set_cons_zero, List.set_cons_succ])
  refine wpAnyH_take (i := 8) (v := ?_) rfl (by kernel_rfl) (by kernel_rfl) (by kernel_rfl) (fun _ _ _ h => h) (Or.inl ⟨by rfl, ?_⟩) (by assumption) ?_
  rotate_left
  ·(intro wq hSw; (try dsimp only at hSw); obtain ⟨hS1, hS2, hS3⟩ := hSw; go_simp)
   all_goals with_reducible rfl
  (try simp only [List.getElem_toArray, List.getElem_cons_zero, List.getElem_cons_succ, Act.put, List.setIfInBounds_toArray, List.set_cons_zero, List.set_cons_succ])
  refine wpAnyH_take (i := 9) (v := ?_) rfl (by kernel_rfl) (by kernel_rfl) (by kernel_rfl) (fun _ _ _ h => h) (Or.inl ⟨by rfl, ?_⟩) (by assumption) ?_
  rotate_left
  ·(intro wq hSw; (try dsimp only at hSw); obtain ⟨hS1, hS2, hS3⟩ := hSw; go_simp)
   all_goals with_reducible rfl
  (try simp only [List.getElem_toArray, List.getElem_cons_zero, List.getElem_cons_succ, Act.put, List.setIfInBounds_toArray, List.set_cons_zero, List.set_cons_succ])
  refine wpAnyH_take (i := 10) (v := ?_) rfl (by kernel_rfl) (by kernel_rfl) (by kernel_rfl) (fun _ _ _ h => h) (Or.inl ⟨by rfl, ?_⟩) (by assumption) ?_
  rotate_left
  ·(intro wq hSw; (try dsimp only at hSw); obtain ⟨hS1, hS2, hS3⟩ := hSw; go_simp)
   all_goals with_reducible rfl
  (try simp only [List.getElem_toArray, List.getElem_cons_zero, List.getElem_cons_succ, Act.put, List.setIfInBounds_toArray, List.set_cons_zero, List.set_cons_succ])
  refine wpAnyH_take (i := 11) (v := ?_) rfl (by kernel_rfl) (by kernel_rfl) (by kernel_rfl) (fun _ _ _ h => h) (Or.inl ⟨by rfl, ?_⟩) (by assumption) ?_
  rotate_left
  ·(intro wq hSw; (try dsimp only at hSw); obtain ⟨hS1, hS2, hS3⟩ := hSw; go_simp)
   all_goals with_reducible rfl
  (try simp only [List.getElem_toArray, List.getElem_cons_zero, List.getElem_cons_succ, Act.put, List.setIfInBounds_toArray, List.set_cons_zero, List.set_cons_succ])
  refine wpAnyH_take (i := 12) (v := ?_) rfl (by kernel_rfl) (by kernel_rfl) (by kernel_rfl) (fun _ _ _ h => h) (Or.inl ⟨by rfl, ?_⟩) (by assumption) ?_
  rotate_left
  ·(intro wq hSw; (try dsimp only at hSw); obtain ⟨hS1, hS2, hS3⟩ := hSw; go_simp)
   all_goals with_reducible rfl
  (try simp only [List.getElem_toArray, List.getElem_cons_zero, List.getElem_cons_succ, Act.put, List.setIfInBounds_toArray, List.set_cons_zero, List.set_cons_succ])
  refine wpAnyH_take (i := 13) (v := ?_) rfl (by kernel_rfl) (by kernel_rfl) (by kernel_rfl) (fun _ _ _ h => h) (Or.inl ⟨by rfl, ?_⟩) (by assumption) ?_
  rotate_left
  ·(intro wq hSw; (try dsimp only at hSw); obtain ⟨hS1, hS2, hS3⟩ := hSw; go_simp)
   all_goals with_reducible rfl
  (try simp only [List.getElem_toArray, List.getElem_cons_zero, List.getElem_cons_succ, Act.put, List.setIfInBounds_toArray, List.set_cons_zero, List.set_cons_succ])
  refine wpAnyH_one 14 (by kernel_rfl) rfl (fun K' hK' => ?_)
  (try rw [if_pos (by rfl)])
  go_simp
  refine hK'.out _ _ ⟨e0, e1, e2⟩ (fun hHq => ?_)
  clear hHeld
  have hHeld := hHq
  clear hHq hK' K'
  (try simp only [List.getElem_toArray, List.getElem_cons_zero, List.getElem_cons_succ, Act.put, List.setIfInBounds_toArray, List.set_cons_zero, List.set_cons_succ])
  refine wpAnyH_done (by kernel_rfl) ?_ _
  go_wp2_with fail
  go_end0
  exact ⟨rfl, HF.out.1, HF.out.2⟩
set_option maxHeartbeats 1000000 in
theorem rtake_bad {w : World} {g : Nat} {A : Option Addr} {c : Nat} {N : Int} {toks : List Tok} {i : Nat} {a e : Int} (he : e ≠ 0) (h : RP w g A c N toks i a e) : Calls Tryz.prog 106 #[.pointer (some ⟨g, 0, none⟩)] w fun e' w' => e' = .returned (.tuple #[]) ∧ w' = w := by
 obtain ⟨c0, c1, c2, c3, c4⟩ := h.mem.c5
 have he2 : (e == 0) = false := by simp [he]
 clear h he
 go_enter Tryz.func106, Tryz.ntmps106
 go_wp2_with fail
 go_end0
 exact ⟨rfl, rfl⟩
set_option maxHeartbeats 1000000 in
theorem rtake_good {w : World} {g : Nat} {A : Option Addr} {c : Nat} {N : Int} {toks : List Tok} {i : Nat} {a : Int} (h : RP w g A c N toks i a 0) (hi : i < toks.length) : Calls Tryz.prog 106 #[.pointer (some ⟨g, 0, none⟩)] w fun e' w' => e' = .returned (.tuple #[]) ∧ Only g w w' ∧ RP w' g A c N toks (i + 1) a 0 := by
 have hsm := h.sm
 obtain ⟨c0, c1, c2, c3, c4⟩ := h.mem.c5
 have cf := h.mem.frozen
 have HF : Box (Only g w (w.setCell ⟨g, 1, none⟩ (.int .i64 ((i : Int) + 1))) ∧ RP (w.setCell ⟨g, 1, none⟩ (.int .i64 ((i : Int) + 1))) g A c N toks (i + 1) a 0) := by
  have ho : Only g w (w.setCell ⟨g, 1, none⟩ (.int .i64 ((i : Int) + 1))) := Only.setCell 1 _
  exact ⟨ho, h.put ho (by simpa using h.mem.set 1 (.int .i64 ((i : Int) + 1))) hi⟩
 clear h
 go_enter Tryz.func106, Tryz.ntmps106
 go_wp2_with fail
 go_end0
 exact ⟨rfl, HF.out.1, HF.out.2⟩
end
end Go.Proofs.YthoibeajhdhdhaaGreatDoor
