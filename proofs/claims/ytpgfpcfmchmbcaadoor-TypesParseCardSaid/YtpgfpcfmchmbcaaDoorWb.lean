/- Library calls of Parse of units: Cut, Split, Atoi, the names of the units. -/
import Derived.Test.YtpgfpcfmchmbcaaDoorWa
import Derived.Test.YtpgfpcfmchmbcaaDoorSh
set_option linter.unusedVariables false
set_option linter.unusedSimpArgs false
namespace Go.Proofs.YtpgfpcfmchmbcaaDoor
open Go.RowKit FracM

/-- what the library's variables hold -/
structure LibP (w : World) : Prop where
  syn : ∃ tp p, w.var? Tryd.prog "strconv.ErrSyntax" = some #[.iface tp p]
  rng : ∃ tp p, w.var? Tryd.prog "strconv.ErrRange" = some #[.iface tp p]
  mx : ∃ m, w.cell? ⟨1, 0, none⟩ = some (.int .i64 m)
theorem var_below {n : String} {g : Nat} {w w' : World} {cs : Array Value} (hg : Tryd.prog.globalNamed n = some g) (h : w.var? Tryd.prog n = some cs) (hb : Below w.heap.size w w') : w'.var? Tryd.prog n = some cs := by
  unfold World.var? at h ⊢
  rw [hg] at h ⊢
  simp only [Option.bind_some] at h ⊢
  have hlt : g < w.heap.size := by
    rcases Nat.lt_or_ge g w.heap.size with h' | h'
    · exact h'
    · rw [Array.getElem?_eq_none h'] at h; cases h
  rw [hb.block g hlt]
  exact h
theorem LibP.below {w w' : World} (h : LibP w) (hb : Below w.heap.size w w') : LibP w' := by
  obtain ⟨⟨t1, p1, h2⟩, ⟨t2, p2, h3⟩, ⟨m, h4⟩⟩ := h
  exact ⟨⟨t1, p1, var_below (g := 2) (by kernel_rfl) h2 hb⟩, ⟨t2, p2, var_below (g := 3) (by kernel_rfl) h3 hb⟩, ⟨m, (hb.cell (World.block_lt_of_cell? w _ h4)).trans h4⟩⟩
theorem below_bytes (w : World) (t : ByteArray) : Below w.heap.size w (Lib.bytesWorld w 5 t) := by
  unfold Lib.bytesWorld World.freeze
  rw [if_neg (by decide)]
  refine ⟨rfl, rfl, rfl, by simp, fun k hk => ?_⟩
  simp only
  rw [Array.getElem?_modify, if_neg (by omega)]
  have : (w.drew.alloc (.cells (Lib.bytesCells w 5 t) 5)).heap = w.heap.push (.cells (Lib.bytesCells w 5 t) 5) := rfl
  rw [this, Array.getElem?_push, if_neg (by omega)]
theorem atoi_ok (s : ByteArray) (w : World) {v : Int} (hs : s.size ≤ 1000) (h : Lib.atoiAll s.data.toList = .ok v) :
    Calls Tryd.prog 23 #[.string s] w fun e w' => e = .returned (.tuple #[.int .i64 v, .nilIface]) ∧ Below w.heap.size w w' :=
  (Tryd.strconv_Atoi_ok s (by omega) v h w).mono fun e w' ⟨he, hw⟩ => ⟨he, by
    rcases hw with rfl | ⟨t, rfl⟩
    · exact Below.refl _ _
    · exact below_bytes _ _⟩
def AtoiBad (w : World) (e : Ending) (w' : World) : Prop := ∃ x N, e = .returned (.tuple #[.int .i64 x, .iface 85 (.pointer (some ⟨N, 0, none⟩))]) ∧ Below w.heap.size w w'
theorem atoi_bad (s : ByteArray) (w : World) (hs : s.size ≤ 1000) (h : ∀ v, ¬ Lib.atoiAll s.data.toList = .ok v) (hl : LibP w) :
    Calls Tryd.prog 23 #[.string s] w (AtoiBad w) := by
  obtain ⟨⟨t1, p1, h1⟩, ⟨t2, p2, h2⟩, _⟩ := hl
  cases hc : Lib.atoiAll s.data.toList
  all_goals first
    | exact absurd hc (h _)
    | exact (Any.strconv_Atoi_syntax_var Tryd.laysC172 s (by omega) hc t1 p1 w h1).mono fun e w' ⟨N, he, _, _, hb⟩ => ⟨_, N, he, hb⟩
    | exact (Tryd.strconv_Atoi_range_var s (by omega) hc t2 p2 w h2).mono fun e w' ⟨N, he, _, _, hb⟩ => ⟨_, N, he, hb⟩
theorem bsz (l : List UInt8) : (⟨l.toArray⟩ : ByteArray).size = l.length := by show l.toArray.size = _; simp
theorem ssz (s : ByteArray) : s.data.toList.length = s.size := by show _ = s.data.size; simp
theorem cut_len (l sep : List UInt8) : (Lib.cut l sep).1.length ≤ l.length ∧ (Lib.cut l sep).2.1.length ≤ l.length := by
  unfold Lib.cut; split
  · simp; omega
  · simp
theorem bs_data (l : List UInt8) : (bs l).data.toList = l := by simp [bs]
theorem toL (s : ByteArray) : s.toList = s.data.toList := ByteArray.toList_eq _
theorem cut_any (s : ByteArray) (w : World) (hs : s.size ≤ 999) (hl : LibP w) :
    Calls Tryd.prog 22 #[.string s, .string ⟨#[94]⟩] w fun e w' => e = .returned (.tuple #[.string (bs (Lib.cut s.data.toList [94]).1), .string (bs (Lib.cut s.data.toList [94]).2.1), .bool (Lib.cut s.data.toList [94]).2.2]) ∧ Below w.heap.size w w' := by
  obtain ⟨m, hm⟩ := hl.mx
  exact (Tryd.strings_Cut s ⟨#[94]⟩ m w (by omega) hm).mono fun e w' ⟨he, n, hw⟩ => ⟨he, by subst hw; exact below_drewN _ _⟩
/-- a row of strings from the block's beginning -/
structure SL (w : World) (b : Nat) (l : List (List UInt8)) : Prop where
  lt : b < w.heap.size
  at_ : ∀ (k : Nat) (x : List UInt8), l[k]? = some x → w.cell? ⟨b, k, none⟩ = some (.string (bs x))
theorem SL.below {w w' : World} {b : Nat} {l : List (List UInt8)} (h : SL w b l) (hb : Below w.heap.size w w') : SL w' b l := ⟨Nat.lt_of_lt_of_le h.lt hb.size, fun k x hx => (hb.cell h.lt).trans (h.at_ k x hx)⟩
def RetSplit (l : List (List UInt8)) (w : World) (e : Ending) (w' : World) : Prop := ∃ b, e = .returned (.slice (some ⟨b, 0, none⟩) l.length l.length) ∧ SL w' b l ∧ w.heap.size ≤ b ∧ Below w.heap.size w w'
theorem bs_of (s : ByteArray) : bs s.data.toList = s := by unfold bs; apply ByteArray.ext; simp
theorem splK_len (c : UInt8) : ∀ (k : Nat) (s : List UInt8), ∀ x ∈ Lib.splitK [c] 0 k s, x.length ≤ s.length
  | 0, s => by intro x hx; simp [Lib.splitK] at hx; subst hx; omega
  | k + 1, s => by
    intro x hx
    unfold Lib.splitK at hx
    split at hx
    · simp at hx; subst hx; omega
    · rcases List.mem_cons.1 hx with rfl | hx
      · simp; omega
      · have := splK_len c k _ x hx; simp at this; omega
theorem spl_len (c : UInt8) (s : List UInt8) : ∀ x ∈ splL c s, x.length ≤ s.length := splK_len c _ s
theorem split_any (s : ByteArray) (c : UInt8) (w : World) (hs : s.size ≤ 999) (hl : LibP w) :
    Calls Tryd.prog 14 #[.string s, .string ⟨#[c]⟩] w (RetSplit (splL c s.data.toList) w) := by
  obtain ⟨m, hm⟩ := hl.mx
  refine (Tryd.strings_Split s ⟨#[c]⟩ m w (by omega) hm (by show 1 ≤ 1; omega)).mono fun e w' ⟨he, hw⟩ => ?_
  have hd : (Lib.splitB ⟨#[c]⟩ 0 (Lib.countB s ⟨#[c]⟩) s).map (·.data.toList) = splL c s.data.toList := Lib.splitB_data _ _ _ _
  have hlen : (splL c s.data.toList).length = Lib.countB s ⟨#[c]⟩ + 1 := by rw [← hd, List.length_map]; exact Lib.splitB_all _ (by show 1 ≤ 1; omega) 0 _ s rfl
  subst hw
  refine ⟨w.heap.size, by rw [he, hlen], ⟨by simp, fun k x hx => ?_⟩, Nat.le_refl _, bel1 _ _⟩
  rw [← hd, List.getElem?_map] at hx
  obtain ⟨y, hy, hyx⟩ := Option.map_eq_some_iff.1 hx
  have hb := Blk.new w ((Lib.splitB ⟨#[c]⟩ 0 (Lib.countB s ⟨#[c]⟩) s).map Value.string).toArray 9
  unfold Blk at hb
  simp only [World.cell?, hb]
  rw [← hyx, bs_of]
  simp [hy]
def ixI (l : List UInt8) : Int := match nameIx l with | some i => (i : Int) | none => -1
theorem ix_hit {l : List UInt8} {k : Nat} (hk : k < 3) (h : nmU k = l) : ixI l = k := by
  subst h
  have : k = 0 ∨ k = 1 ∨ k = 2 := by omega
  rcases this with rfl | rfl | rfl <;> rfl
theorem ix_no {l : List UInt8} (h : ∀ j, j < 3 → nmU j ≠ l) : ixI l = -1 := by
  unfold ixI nameIx
  rw [if_neg (fun e => h 0 (by omega) e.symm), if_neg (fun e => h 1 (by omega) e.symm), if_neg (fun e => h 2 (by omega) e.symm)]
theorem WordsW.name {w : World} (hw : WordsW w) (k : Nat) (hk : k < 3) : w.cell? ⟨0, k, none⟩ = some (.string (bs (nmU k))) := by
  have : k = 0 ∨ k = 1 ∨ k = 2 := by omega
  rcases this with rfl | rfl | rfl
  · exact hw.units.1
  · exact hw.units.2.1
  · exact hw.units.2.2
set_option maxHeartbeats 400000 in
theorem unitIx_any (s : ByteArray) (w : World) (hw : WordsW w) : Calls Tryd.prog 24 #[.slice (some ⟨0, 0, none⟩) 3 3, .string s] w fun e w' => e = .returned (.int .i64 (ixI s.data.toList)) ∧ w' = w := by
  have HW := Box.mk hw; clear hw
  obtain ⟨r, HR⟩ : ∃ r, Box (ixI s.data.toList = r) := ⟨_, ⟨rfl⟩⟩
  rw [HR.out]
  go_enter Tryd.func24, Tryd.ntmps24
  go_wp2
  go_loop [8] (fun v => ∃ k : Nat, k ≤ 3 ∧ v = .int .i64 (k : Nat) ∧ Box (∀ j, j < k → nmU j ≠ s.data.toList)) (fun v => (3 - intOf v).toNat)
  case atStart => exact ⟨0, by omega, rfl, ⟨fun j hj => by omega⟩⟩
  case round =>
    obtain ⟨k, hk, rfl, HI⟩ := hrel
    by_cases h5 : k = 3
    · subst h5
      go_wp2
      go_ret
      exact ⟨by rw [← HR.out, ix_no HI.out]; try rfl, rfl⟩
    · have hs := HW.out.name k (by omega)
      have hk2 : (k : Int) < 3 := by omega
      have hk3 : k < 3 := by omega
      clear h5
      by_cases hn : (s.toList == (bs (nmU k)).toList) = true
      · have HN : Box (nmU k = s.data.toList) := ⟨by have := eq_of_beq hn; rw [bs_toL, toL] at this; exact this.symm⟩
        go_wp2
        go_ret
        exact ⟨by rw [← HR.out, ix_hit hk3 HN.out]; try rfl, rfl⟩
      · have hn1 : (s.toList == (bs (nmU k)).toList) = false := by simpa using hn
        have HN : Box (nmU k ≠ s.data.toList) := ⟨fun e => hn (by rw [bs_toL, toL, e]; exact beq_self_eq_true _)⟩
        clear hn
        go_wp2
        go_round
        case rel =>
          refine ⟨k + 1, by omega, rfl, ⟨fun j hj => ?_⟩⟩
          rcases Nat.lt_or_ge j k with h | h
          · exact HI.out j h
          · obtain rfl : j = k := by omega
            exact HN.out
        case measure => simp [intOf]; omega
end Go.Proofs.YtpgfpcfmchmbcaaDoor
