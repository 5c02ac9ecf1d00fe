/- Contracts, packed: Ra Qm Qu. -/
import Derived.Test.YtgomgoacponbkaaDoorPk14
import Derived.Deep.DeepCutAuto
set_option linter.unusedVariables false
set_option linter.unusedSimpArgs false
namespace Go.Proofs.YtgomgoacponbkaaDoor
section
open Go.RowKit FracM

/-- a declaration with the value of its labels and its other numbers -/
structure Dx where
  dc : Dc
  lv : Value
  o : Nat → Int
abbrev dcC (x : Dx) : Array Value := #[.string x.dc.1, x.lv, .int .i64 x.dc.2.2.1, .int .i64 x.dc.2.2.2.1, .int .i64 x.dc.2.2.2.2, .int .i64 (x.o 0), .int .i64 (x.o 1), .int .i64 (x.o 2), .int .i64 (x.o 3), .int .i64 (x.o 4), .int .i64 (x.o 5), .int .i64 (x.o 6)]
def dcL (x : Dx) : List Value := (dcC x).toList
def unitsL : List U3 := [(0, 0, 1), (0, 1, 0), (1, 0, 0), (0, 0, 0), (-2, 0, 3), (0, -3, -3), (4, 0, 0), (0, 0, -4)]
def unitCells (u : U3) : List Value := [.int .i64 u.1, .int .i64 u.2.1, .int .i64 u.2.2]
theorem declInfo : (Tryd.prog.info? 46).map (fun i => (i.zero, i.size, i.bytes)) = some (some (.agg #[.string ⟨#[]⟩, .slice none 0 0, .int .i64 0, .int .i64 0, .int .i64 0, .int .i64 0, .int .i64 0, .int .i64 0, .int .i64 0, .int .i64 0, .int .i64 0, .int .i64 0]), 12, 120) := by kernel_rfl
/-- a declaration of the generator -/
structure GoodD (w : World) (base : Nat) (x : Dx) : Prop where
  labs : Labs w base x.lv x.dc.2.1
  good : ∀ y ∈ x.dc.2.1, GoodLab y
  few : x.dc.2.1.length ≤ 6
  name : x.dc.1 ∈ ns3
  unit : x.dc.2.2 ∈ unitsL
theorem GoodD.below {w w' : World} {base : Nat} {x : Dx} (h : GoodD w base x) (f : Below w.heap.size w w') : GoodD w' base x := ⟨h.labs.below f, h.good, h.few, h.name, h.unit⟩
theorem GoodD.keep {w w' : World} {base : Nat} {T : List TypeId} {x : Dx} (h : GoodD w base x) (f : Fr base T w w') (ht : 78 ∉ T) : GoodD w' base x := ⟨h.labs.keep f ht, h.good, h.few, h.name, h.unit⟩
theorem fr0 {base : Nat} {T : List TypeId} {w w' : World} (h : Fr base T w w') : Fr 0 T w w' := ⟨h.os, h.tape, h.output, h.size, fun k hk hc => h.block k hk (hc.imp (fun h => absurd h (by omega)) id)⟩
def Units (w : World) (base : Nat) (v : Value) : Prop := Seq w base 23 3 v 8 (unitsL.flatMap unitCells)
/-- declarations are returned -/
def RetDs (w : World) (e : Ending) (w' : World) : Prop := ∃ (D : List Dx) (A : Option Addr) (n c : Nat), e = .returned (.slice A n c) ∧ w'.ownsRow w.heap.size 46 12 (.slice A n c) D.length (D.flatMap dcL) ∧ D.length ≤ 5 ∧ (∀ x ∈ D, GoodD w' 0 x) ∧ Below w.heap.size w w'
def DsRel (w : World) (m : Int) (nv uv v i : Value) (wr : World) : Prop :=
  ∃ (n : Nat) (D : List Dx), (n : Int) ≤ m ∧ i = .int .i64 n ∧ D.length = n ∧ (∀ x ∈ D, GoodD wr 0 x) ∧ wr.ownsRow w.heap.size 46 12 v n (D.flatMap dcL) ∧ Strs wr w.heap.size nv ns3 ∧ Units wr w.heap.size uv ∧ Below w.heap.size w wr
theorem dc_one (x : Dx) (hx : ∃ A n c, x.lv = .slice A n c) : ∀ u ∈ dcL x, u.oneCell' = true := by
  obtain ⟨A, n, c, hx⟩ := hx
  intro u hu
  simp [dcL, dcC, hx] at hu
  rcases hu with rfl | rfl | rfl | rfl | rfl | rfl | rfl | rfl | rfl | rfl | rfl | rfl <;> rfl
theorem cells12 (w : World) (t : TypeId) (v0 v1 v2 v3 v4 v5 v6 v7 v8 v9 v10 v11 : Value) : ∀ j u, [v0, v1, v2, v3, v4, v5, v6, v7, v8, v9, v10, v11][j]? = some u → (w.alloc (.cells #[v0, v1, v2, v3, v4, v5, v6, v7, v8, v9, v10, v11] t)).cell? ((⟨w.heap.size, 0, none⟩ : Addr).add j) = some u := by
  intro j u hj
  have hb := Blk.new w #[v0, v1, v2, v3, v4, v5, v6, v7, v8, v9, v10, v11] t
  unfold Blk at hb
  have : ((⟨w.heap.size, 0, none⟩ : Addr).add j) = ⟨w.heap.size, j, none⟩ := by
    unfold Addr.add; split
    · next h => subst h; rfl
    · simp
  rw [this]
  simp only [World.cell?, hb]
  simpa using hj
/-- a unit of the list in memory -/
theorem Units.at_ {w : World} {base : Nat} {A : Option Addr} {n c : Nat} (h : Units w base (.slice A n c)) (q : Nat) (hq : q < 8) : ∃ b off u, A = some ⟨b, off, none⟩ ∧ Fit w base 23 b ∧ unitsL[q]? = some u ∧ w.cell? ⟨b, off + q * 3, none⟩ = some (.int .i64 u.1) ∧ w.cell? ⟨b, off + q * 3 + 1, none⟩ = some (.int .i64 u.2.1) ∧ w.cell? ⟨b, off + q * 3 + 2, none⟩ = some (.int .i64 u.2.2) := by
  obtain ⟨h1, A', c', hv, _, _, h2⟩ := h
  cases hv
  obtain ⟨b, off, rfl, hf, hx⟩ := h2 (by omega)
  obtain ⟨u, hu⟩ : ∃ u, unitsL[q]? = some u := ⟨unitsL[q]'(by simp [unitsL]; omega), List.getElem?_eq_getElem _⟩
  have g := fun j (hj : j < 3) => flat_get unitCells 3 (fun _ => rfl) unitsL q j _ hu hj
  refine ⟨b, off, u, rfl, hf, hu, ?_, ?_, ?_⟩
  · exact hx _ _ ((g 0 (by omega)).trans rfl)
  · rw [Nat.add_assoc]; exact hx _ _ ((g 1 (by omega)).trans rfl)
  · rw [Nat.add_assoc]; exact hx _ _ ((g 2 (by omega)).trans rfl)
theorem Strs.at_ {w : World} {base n c : Nat} {A : Option Addr} {l : List ByteArray} (h : Strs w base (.slice A n c) l) (k : Nat) (hk : k < l.length) : ∃ b off x, A = some ⟨b, off, none⟩ ∧ Fit w base 9 b ∧ l[k]? = some x ∧ w.cell? ⟨b, off + k, none⟩ = some (.string x) := by
  obtain ⟨h1, A', c', hv, _, _, h2⟩ := h
  cases hv
  obtain ⟨b, off, rfl, hf, hx⟩ := h2 (by omega)
  exact ⟨b, off, l[k], rfl, hf, List.getElem?_eq_getElem hk, hx k _ (by rw [List.getElem?_map, List.getElem?_eq_getElem hk]; rfl)⟩

theorem Ints.new (w : World) (base : Nat) (l : List Int) (cs : Array Value) (h : cs.toList = l.map (Value.int .i64)) (hl : l.length ≤ 1000) (hx : ∀ x ∈ l, I64 x) : Ints (w.alloc (.cells cs 3)) base (.slice (some ⟨w.heap.size, 0, none⟩) l.length l.length) l := by
  refine ⟨⟨by simp, _, _, rfl, Nat.le_refl _, by unfold maxLen; omega, fun _ => ⟨w.heap.size, 0, rfl, ⟨by simp, .inr ⟨_, _, heap_alloc_new w _⟩⟩, ?_⟩⟩, hx⟩
  intro j u hj
  rw [← h] at hj
  have := cell_of_row (w.alloc (.cells cs 3)) w.heap.size (0 + j) cs 3 (0, 0) (heap_alloc_new w _)
  rw [this, Nat.zero_add]
  simpa using hj
set_option maxRecDepth 100000 in
set_option maxHeartbeats 4000000 in
theorem decls_any (A : Option Addr) (n c : Nat) (l : List Int) (w : World) (h : Ints w w.heap.size (.slice A n c) l) :
    Calls Tryd.prog 17 #[.slice A n c] w (RetDs w) := by
  obtain ⟨j0, hj, hy0, hy1, hy2⟩ := info_parts declInfo
  obtain ⟨hp1, hp2⟩ := pick_bd l 0 6 (by omega)
  have HI := Lib.hid h
  have HJ := Lib.hid (And.intro hj (And.intro hy0 (And.intro hy1 hy2)))
  clear h hj hy0 hy1 hy2
  go_enter Tryd.func17, Tryd.ntmps17
  go_upto_region 3 with (fail)
  have HS : Box (Strs ((w.alloc (.cells #[.string ⟨#[99, 112, 117]⟩, .string ⟨#[109, 101, 109]⟩, .string ⟨#[97]⟩] 9)).alloc (.cells #[.int .i64 0, .int .i64 0, .int .i64 1, .int .i64 0, .int .i64 1, .int .i64 0, .int .i64 1, .int .i64 0, .int .i64 0, .int .i64 0, .int .i64 0, .int .i64 0, .int .i64 (-2), .int .i64 0, .int .i64 3, .int .i64 0, .int .i64 (-3), .int .i64 (-3), .int .i64 4, .int .i64 0, .int .i64 0, .int .i64 0, .int .i64 0, .int .i64 (-4)] 23)) w.heap.size (.slice (some ⟨w.heap.size, 0, none⟩) 3 3) ns3 ∧ Units ((w.alloc (.cells #[.string ⟨#[99, 112, 117]⟩, .string ⟨#[109, 101, 109]⟩, .string ⟨#[97]⟩] 9)).alloc (.cells #[.int .i64 0, .int .i64 0, .int .i64 1, .int .i64 0, .int .i64 1, .int .i64 0, .int .i64 1, .int .i64 0, .int .i64 0, .int .i64 0, .int .i64 0, .int .i64 0, .int .i64 (-2), .int .i64 0, .int .i64 3, .int .i64 0, .int .i64 (-3), .int .i64 (-3), .int .i64 4, .int .i64 0, .int .i64 0, .int .i64 0, .int .i64 0, .int .i64 (-4)] 23)) w.heap.size (.slice (some ⟨w.heap.size + 1, 0, none⟩) 8 8) ∧ Below w.heap.size w ((w.alloc (.cells #[.string ⟨#[99, 112, 117]⟩, .string ⟨#[109, 101, 109]⟩, .string ⟨#[97]⟩] 9)).alloc (.cells #[.int .i64 0, .int .i64 0, .int .i64 1, .int .i64 0, .int .i64 1, .int .i64 0, .int .i64 1, .int .i64 0, .int .i64 0, .int .i64 0, .int .i64 0, .int .i64 0, .int .i64 (-2), .int .i64 0, .int .i64 3, .int .i64 0, .int .i64 (-3), .int .i64 (-3), .int .i64 4, .int .i64 0, .int .i64 0, .int .i64 0, .int .i64 0, .int .i64 (-4)] 23))) := ⟨by
    refine ⟨(Strs.new w w.heap.size ns3 #[.string ⟨#[99, 112, 117]⟩, .string ⟨#[109, 101, 109]⟩, .string ⟨#[97]⟩] rfl (by decide)).below (bel1 _ _), ?_, bel2 _ _ _⟩
    refine ⟨rfl, _, _, rfl, by omega, by unfold maxLen; omega, fun _ => ⟨w.heap.size + 1, 0, rfl, ⟨by simp, .inr ⟨_, (0, 0), Blk.newAt _ _ (by simp)⟩⟩, fun j u hu => ?_⟩⟩
    have hb := Blk.newAt (w := w.alloc (.cells #[.string ⟨#[99, 112, 117]⟩, .string ⟨#[109, 101, 109]⟩, .string ⟨#[97]⟩] 9)) (k := w.heap.size + 1) #[.int .i64 0, .int .i64 0, .int .i64 1, .int .i64 0, .int .i64 1, .int .i64 0, .int .i64 1, .int .i64 0, .int .i64 0, .int .i64 0, .int .i64 0, .int .i64 0, .int .i64 (-2), .int .i64 0, .int .i64 3, .int .i64 0, .int .i64 (-3), .int .i64 (-3), .int .i64 4, .int .i64 0, .int .i64 0, .int .i64 0, .int .i64 0, .int .i64 (-4)] 23 (by simp)
    unfold Blk at hb
    simp only [World.cell?, hb]
    simpa [unitsL, unitCells] using hu⟩
  generalize ((w.alloc (.cells #[.string ⟨#[99, 112, 117]⟩, .string ⟨#[109, 101, 109]⟩, .string ⟨#[97]⟩] 9)).alloc (.cells #[.int .i64 0, .int .i64 0, .int .i64 1, .int .i64 0, .int .i64 1, .int .i64 0, .int .i64 1, .int .i64 0, .int .i64 0, .int .i64 0, .int .i64 0, .int .i64 0, .int .i64 (-2), .int .i64 0, .int .i64 3, .int .i64 0, .int .i64 (-3), .int .i64 (-3), .int .i64 4, .int .i64 0, .int .i64 0, .int .i64 0, .int .i64 0, .int .i64 (-4)] 23)) = W at HS ⊢
  go_wp2_with fail
  go_loopw [5, 6] (fun v i wr => DsRel w (pickZ l 0 6) (.slice (some ⟨w.heap.size, 0, none⟩) 3 3) (.slice (some ⟨w.heap.size + 1, 0, none⟩) 8 8) v i wr) (fun _ i _ => (pickZ l 0 6 - intOf i).toNat)
  case atStart => exact ⟨0, [], by omega, rfl, rfl, fun x hx => by simp at hx, World.ownsRow_nil _ _ _ _, HS.out.1, HS.out.2.1, HS.out.2.2⟩
  case round =>
    obtain ⟨n', D, hk, rfl, hlen, hgood, hown, hsn, hsu, hbw⟩ := hrel
    have hsz := hbw.size
    clear HS
    have HIr := Lib.hid (HI.out.below hbw)
    have HR := Lib.hid (And.intro hlen (And.intro hgood (And.intro hown (And.intro hsn (And.intro hsu hbw)))))
    clear hlen hgood hown hsn hsu hbw
    by_cases hlt : (n' : Int) < pickZ l 0 6
    · have t0 : IntKind.i64.wrap (4 * (n' : Int)) = 4 * (n' : Int) := W64_in (by omega) (by omega)
      have t1 : IntKind.i64.wrap (4 * (n' : Int) + 1) = 4 * (n' : Int) + 1 := W64_in (by omega) (by omega)
      have t2 : IntKind.i64.wrap (4 * (n' : Int) + 2) = 4 * (n' : Int) + 2 := W64_in (by omega) (by omega)
      have t3 : IntKind.i64.wrap (4 * (n' : Int) + 3) = 4 * (n' : Int) + 3 := W64_in (by omega) (by omega)
      go_upto_region 7 with (first | (go_at_call 31; refine (pick_any _ _ _ w.heap.size l _ _ _ HIr.out (by omega) (by omega)).mono ?_; rintro e w' ⟨rfl, rfl⟩))
      go_cut [7] (fun x wx => ∃ kk : Nat, kk < 3 ∧ x = .int .i64 kk ∧ wr = wx)
      case first =>
        go_wp2_with (go_at_call 31; refine (pick_any _ _ _ w.heap.size l _ _ _ HIr.out (by omega) (by omega)).mono ?_; rintro e w' ⟨rfl, rfl⟩)
        go_meet
        obtain ⟨q1, q2⟩ := pick_bd l (4 * (n' : Int) + 1) 3 (by omega)
        exact ⟨(pickZ l (4 * (n' : Int) + 1) 3).toNat, by omega, by rw [Int.toNat_of_nonneg q1], rfl⟩
      case rest =>
        obtain ⟨kk, hkk, rfl, hwx⟩ := hcut
        subst hwx
        obtain ⟨q1, q2⟩ := pick_bd l (4 * (n' : Int) + 2) 40 (by omega)
        go_upto_if 40 with (go_at_call 31; refine (pick_any _ _ _ w.heap.size l _ _ _ HIr.out (by omega) (by omega)).mono ?_; rintro e w' ⟨rfl, rfl⟩)
        go_cut [8] (fun x w2 => ∃ q : Nat, q < 8 ∧ x = .int .i64 q ∧ wr = w2)
        case first =>
          by_cases h8 : 8 ≤ pickZ l (4 * (n' : Int) + 2) 40
          · go_wp2_with fail
            go_meet
            exact ⟨kk, by omega, rfl, rfl⟩
          · go_wp2_with fail
            go_meet
            exact ⟨(pickZ l (4 * (n' : Int) + 2) 40).toNat, by omega, by rw [Int.toNat_of_nonneg q1], rfl⟩
        case rest =>
          clear q1 q2
          obtain ⟨q, hq, rfl, hwx⟩ := hcut
          subst hwx
          obtain ⟨q1, q2⟩ := pick_bd l (4 * (n' : Int) + 3) 100000 (by omega)
          have hkk2 : (kk : Int) < 3 := by omega
          have hq3 : (q : Int) < 8 := by omega
          go_wp2_with (go_at_call 31; refine (pick_any _ _ _ w.heap.size l _ _ _ HIr.out (by omega) (by omega)).mono ?_; rintro e w' ⟨rfl, rfl⟩)
          refine (set_any _ _ _ 0 [pickZ l (4 * (n' : Int) + 3) 100000, pickZ l (4 * (n' : Int) + 3) 100000 / 64, pickZ l (4 * (n' : Int) + 3) 100000 / 64, pickZ l (4 * (n' : Int) + 3) 100000 / 64, pickZ l (4 * (n' : Int) + 3) 100000 / 64, pickZ l (4 * (n' : Int) + 3) 100000 / 64, pickZ l (4 * (n' : Int) + 3) 100000 / 64] _ (Ints.new wr 0 _ _ rfl (by simp) (by simp [I64]; omega)) (Nat.zero_le _)).mono ?_
          rintro e w5 ⟨ls, A5, n5, c5, rfl, hls, hb5, hfew, hgl⟩
          obtain ⟨rfl, -⟩ := hls.len
          have hb5' := (bel1 wr _).trans (hb5.mono (by simp))
          have hsz5 := hb5'.size
          obtain ⟨b1, off1, x1, hA1, hf1, hx1, hc1⟩ := (HR.out.2.2.2.1.below hb5').at_ kk (by simpa [ns3] using hkk)
          obtain ⟨b2, off2, un, hA2, hf2, hun, u0, u1, u2⟩ := Units.at_ (w := w5) (base := w.heap.size) (Seq.below HR.out.2.2.2.2.1 hb5') q hq
          simp only [Option.some.injEq, Addr.mk.injEq, and_true] at hA1 hA2
          obtain ⟨rfl, rfl⟩ := hA1
          obtain ⟨rfl, rfl⟩ := hA2
          simp only [Nat.zero_add] at hc1 u0 u1 u2
          have HFT := Lib.hid (And.intro hf1 hf2)
          have HC := Lib.hid (And.intro hc1 (And.intro u0 (And.intro u1 u2)))
          have HOW := Lib.hid (own_below HR.out.2.2.1 hb5')
          have HG5 : Hid (GoodD w5 0 ⟨(x1, ls, un), .slice A5 ls.length c5, fun _ => 0⟩) := ⟨hls, hgl, hfew, List.mem_of_getElem? hx1, List.mem_of_getElem? hun⟩
          have HB5 := Lib.hid hb5'
          clear hls hb5 hb5' hfew hgl hf1 hf2 hx1 hun t0 t1 t2 t3 q1 q2
          go_wp2_with fail
          go_region_held3 (fun w' => w'.cell? ⟨w.heap.size, kk, none⟩ = some (.string x1) ∧ w'.cell? ⟨w.heap.size + 1, q * 3, none⟩ = some (.int .i64 un.1) ∧ w'.cell? ⟨w.heap.size + 1, q * 3 + 1, none⟩ = some (.int .i64 un.2.1) ∧ w'.cell? ⟨w.heap.size + 1, q * 3 + 2, none⟩ = some (.int .i64 un.2.2)) (first | go_keep | exact HK9.out)
            (first
              | (refine step_append_lies _ rfl _ _ 30 rfl w.heap.size 46 j0 _ 12 120 Tryd.underlying30 HJ.out.1 HJ.out.2.1 HJ.out.2.2.1 HJ.out.2.2.2 rfl (by decide) u5 n' (D.flatMap dcL) rfl (by exact HOW.out.alloc _) ⟨w5.heap.size, 0, none⟩ 1 1 (dcL ⟨(x1, ls, un), .slice A5 ls.length c5, fun _ => 0⟩) rfl rfl (cells12 _ _ _ _ _ _ _ _ _ _ _ _ _ _) (dc_one _ ⟨_, _, _, rfl⟩) (by decide) (by unfold maxLen; omega) (by omega) (by simp; omega) _ rfl ?_
                 intro g cap w9 hown9 hg9 hat9 hlt9
                 have HF9 : Hid (Fr w.heap.size [46] w5 w9) := grow_fr HOW.out (by first | exact bel1 _ _ | exact (bel1 _ _).drew) hg9
                 have HK9 : Hid (w9.cell? ⟨w.heap.size, kk, none⟩ = some (.string x1) ∧ w9.cell? ⟨w.heap.size + 1, q * 3, none⟩ = some (.int .i64 un.1) ∧ w9.cell? ⟨w.heap.size + 1, q * 3 + 1, none⟩ = some (.int .i64 un.2.1) ∧ w9.cell? ⟨w.heap.size + 1, q * 3 + 2, none⟩ = some (.int .i64 un.2.2)) := ⟨fit_cell HFT.out.1 HF9.out (by decide) HC.out.1, fit_cell HFT.out.2 HF9.out (by decide) HC.out.2.1, fit_cell HFT.out.2 HF9.out (by decide) HC.out.2.2.1, fit_cell HFT.out.2 HF9.out (by decide) HC.out.2.2.2⟩
                 have HO9 := Lib.hid hown9
                 clear hown9 hg9 hat9))
          have HFIN : Hid (w9.ownsRow w.heap.size 46 12 (.slice (some ⟨g, 0, none⟩) (n' + 1) cap) (n' + 1) ((D ++ [(⟨(x1, ls, un), .slice A5 ls.length c5, fun _ => 0⟩ : Dx)]).flatMap dcL)) := by rw [Hid, List.flatMap_append]; simpa using HO9.out
          clear HO9
          go_wp2
          go_roundw
          case rel =>
            refine ⟨n' + 1, D ++ [⟨(x1, ls, un), .slice A5 ls.length c5, fun _ => 0⟩], by omega, by go_num, by simp [HR.out.1], fun x hx => ?_, HFIN.out, (HR.out.2.2.2.1.below HB5.out).keep HF9.out (by decide), Seq.keep (Seq.below HR.out.2.2.2.2.1 HB5.out) HF9.out (by decide), (HR.out.2.2.2.2.2.trans (HB5.out.mono hsz)).trans (fr_below HF9.out (by omega))⟩
            rcases List.mem_append.1 hx with hx | hx
            · exact ((HR.out.2.1 x hx).below HB5.out).keep (fr0 HF9.out) (by decide)
            · simp at hx; subst hx; exact HG5.out.keep (fr0 HF9.out) (by decide)
          case measure => simp [intOf]; omega
    · obtain ⟨A2, c2, hv2⟩ := own_form HR.out.2.2.1
      have HV := Lib.hid hv2
      clear hv2
      go_wp2_with (go_at_call 31; refine (pick_any _ _ _ w.heap.size l _ _ _ HIr.out (by omega) (by omega)).mono ?_; rintro e w' ⟨rfl, rfl⟩)
      go_ret
      refine ⟨D, A2, n', c2, congrArg Ending.returned HV.out, ?_, by have := HR.out.1; omega, HR.out.2.1, HR.out.2.2.2.2.2⟩
      have := HR.out.2.2.1
      rw [HV.out] at this; rw [HR.out.1]; exact this
end
section
open Go.RowKit FracM

def DxOk (w : World) (P : Nat → Nat → Prop) (x : Dx) : Prop := SeqP w P 2 x.lv x.dc.2.1.length (x.dc.2.1.flatMap labCells) ∧ x.dc.1.size ≤ maxLen ∧ I64 x.dc.2.2.1 ∧ I64 x.dc.2.2.2.1 ∧ I64 x.dc.2.2.2.2
def DecsAt (w : World) (P : Nat → Nat → Prop) (v : Value) (l : List Dx) : Prop := SeqP w P 12 v l.length (l.flatMap dcL) ∧ ∀ x ∈ l, DxOk w P x
theorem DecsAt.keep {w w' : World} {P : Nat → Nat → Prop} {v : Value} {l : List Dx} (h : DecsAt w P v l) (f : Agree P w w') : DecsAt w' P v l := ⟨h.1.keep f, fun x hx => ⟨(h.2 x hx).1.keep f, (h.2 x hx).2⟩⟩
theorem DecsAt.mono {w : World} {P Q : Nat → Nat → Prop} {v : Value} {l : List Dx} (h : DecsAt w P v l) (hq : ∀ b e, b < w.heap.size → P b e → Q b e) : DecsAt w Q v l := ⟨h.1.mono hq, fun x hx => ⟨(h.2 x hx).1.mono hq, (h.2 x hx).2⟩⟩
def dcs (l : List Dx) : List Dc := l.map (·.dc)
abbrev uV (u : U3) : Value := .agg #[.int .i64 u.1, .int .i64 u.2.1, .int .i64 u.2.2]
abbrev uC (u : U3) : Array Value := #[.int .i64 u.1, .int .i64 u.2.1, .int .i64 u.2.2]
def uL (u : U3) : List Value := [.int .i64 u.1, .int .i64 u.2.1, .int .i64 u.2.2]
abbrev At12 (w : World) (b o : Nat) (x : Dx) : Prop := w.cell? ⟨b, o, none⟩ = some (.string x.dc.1) ∧ w.cell? ⟨b, o + 1, none⟩ = some x.lv ∧ w.cell? ⟨b, o + 2, none⟩ = some (.int .i64 x.dc.2.2.1) ∧ w.cell? ⟨b, o + 3, none⟩ = some (.int .i64 x.dc.2.2.2.1) ∧ w.cell? ⟨b, o + 4, none⟩ = some (.int .i64 x.dc.2.2.2.2) ∧ w.cell? ⟨b, o + 5, none⟩ = some (.int .i64 (x.o 0)) ∧ w.cell? ⟨b, o + 6, none⟩ = some (.int .i64 (x.o 1)) ∧ w.cell? ⟨b, o + 7, none⟩ = some (.int .i64 (x.o 2)) ∧ w.cell? ⟨b, o + 8, none⟩ = some (.int .i64 (x.o 3)) ∧ w.cell? ⟨b, o + 9, none⟩ = some (.int .i64 (x.o 4)) ∧ w.cell? ⟨b, o + 10, none⟩ = some (.int .i64 (x.o 5)) ∧ w.cell? ⟨b, o + 11, none⟩ = some (.int .i64 (x.o 6))
theorem DecsAt.at_ {w : World} {P : Nat → Nat → Prop} {A : Option Addr} {n c : Nat} {l : List Dx} (h : DecsAt w P (.slice A n c) l) (i : Nat) (x : Dx) (hi : l[i]? = some x) :
    ∃ b off, A = some ⟨b, off, none⟩ ∧ b < w.heap.size ∧ (∃ z, P b z) ∧ At12 w b (off + i * 12) x := by
  have hlt : i < l.length := (List.getElem?_eq_some_iff.1 hi).1
  obtain ⟨⟨_, A', c', hv, _, _, h2⟩, _⟩ := h
  cases hv
  obtain ⟨b, off, rfl, hb, hp, hx⟩ := h2 (by omega)
  refine ⟨b, off, rfl, hb, ⟨_, hp⟩, ?_⟩
  have g := fun j (hj : j < 12) => flat_get dcL 12 (fun _ => rfl) l i j _ hi hj
  refine ⟨?_, ?_, ?_, ?_, ?_, ?_, ?_, ?_, ?_, ?_, ?_, ?_⟩
  · exact hx _ _ ((g 0 (by omega)).trans rfl)
  · rw [Nat.add_assoc]; exact hx _ _ ((g 1 (by omega)).trans rfl)
  · rw [Nat.add_assoc]; exact hx _ _ ((g 2 (by omega)).trans rfl)
  · rw [Nat.add_assoc]; exact hx _ _ ((g 3 (by omega)).trans rfl)
  · rw [Nat.add_assoc]; exact hx _ _ ((g 4 (by omega)).trans rfl)
  · rw [Nat.add_assoc]; exact hx _ _ ((g 5 (by omega)).trans rfl)
  · rw [Nat.add_assoc]; exact hx _ _ ((g 6 (by omega)).trans rfl)
  · rw [Nat.add_assoc]; exact hx _ _ ((g 7 (by omega)).trans rfl)
  · rw [Nat.add_assoc]; exact hx _ _ ((g 8 (by omega)).trans rfl)
  · rw [Nat.add_assoc]; exact hx _ _ ((g 9 (by omega)).trans rfl)
  · rw [Nat.add_assoc]; exact hx _ _ ((g 10 (by omega)).trans rfl)
  · rw [Nat.add_assoc]; exact hx _ _ ((g 11 (by omega)).trans rfl)
theorem DecsAt.len {w : World} {P : Nat → Nat → Prop} {A : Option Addr} {n c : Nat} {l : List Dx} (h : DecsAt w P (.slice A n c) l) : n = l.length ∧ n ≤ 9223372036854775807 := by
  obtain ⟨⟨_, _, _, hv, h1, h2, _⟩, _⟩ := h
  cases hv
  unfold maxLen at h2
  exact ⟨rfl, by omega⟩
theorem blk12 {W : World} {g : Nat} {t : TypeId} {x : Dx} (h : Blk W g t (dcC x)) : At12 W g 0 x := by
  unfold Blk at h
  refine ⟨?_, ?_, ?_, ?_, ?_, ?_, ?_, ?_, ?_, ?_, ?_, ?_⟩ <;> simp [World.cell?, h]
/-- the frame of a method of typing: all below base is as it stands here -/
structure S2 (g : Nat) (w W : World) (P : Nat → Nat → Prop) (d : Nd) (ks : List Tree) (mv bv kv dv : Value) (D : List Dx) (er : Int) : Prop where
  only : Only g w W
  T : Blk W g 72 #[dv, .int .i64 er]
  Q : Blk W w.heap.size 38 (ndC d mv bv kv)
  R : Blk W (w.heap.size + 1) 23 #[.int .i64 0, .int .i64 0, .int .i64 0]
  nod : Nod W P d ks mv bv kv
  decs : DecsAt W P dv D
theorem S2.start {g : Nat} {w : World} {P : Nat → Nat → Prop} {d : Nd} {ks : List Tree} {mv bv kv dv : Value} {D : List Dx} {er : Int} (hg : Blk w g 72 #[dv, .int .i64 er]) (hT : TreeAt w P (.node d ks) (mv, bv, kv)) (hD : DecsAt w P dv D) : S2 g w ((w.alloc (.cells (ndC d mv bv kv) 38)).alloc (.cells #[.int .i64 0, .int .i64 0, .int .i64 0] 23)) P d ks mv bv kv dv D er :=
  ⟨Only.of_below (bel2 _ _ _), (hg.alloc _).alloc _, (Blk.new _ _ _).alloc _, Blk.newAt _ _ (by simp), (hT.belo (bel2 _ _ _)).nod, hD.keep (Agree.of_below (bel2 _ _ _))⟩
theorem S2.below {g : Nat} {w W W' : World} {P : Nat → Nat → Prop} {d : Nd} {ks : List Tree} {mv bv kv dv : Value} {D : List Dx} {er : Int} (h : S2 g w W P d ks mv bv kv dv D er) (hb : Below W.heap.size W W') : S2 g w W' P d ks mv bv kv dv D er :=
  ⟨h.only.trans (Only.of_below hb), h.T.below hb, h.Q.below hb, h.R.below hb, h.nod.below hb, h.decs.keep (Agree.of_below hb)⟩
/-- blocks from base on may turn -/
theorem S2.from_ {g : Nat} {w W W' : World} {P : Nat → Nat → Prop} {d : Nd} {ks : List Tree} {mv bv kv dv : Value} {D : List Dx} {er : Int} (h : S2 g w W P d ks mv bv kv dv D er) (hg : g < w.heap.size) (hP : ∀ b e, P b e → b < w.heap.size) (hb : Below (w.heap.size + 2) W W') : S2 g w W' P d ks mv bv kv dv D er := by
  have hz := h.R.lt
  refine ⟨⟨hb.os.trans h.only.os, hb.tape.trans h.only.tape, hb.output.trans h.only.output, Nat.le_trans h.only.size hb.size, fun k hk hn => (hb.block k (by omega)).trans (h.only.block k hk hn)⟩, (hb.block _ (by omega)).trans h.T, (hb.block _ (by omega)).trans h.Q, (hb.block _ (by omega)).trans h.R, h.nod.keep (Agree.of_lt hb fun b e hp => by have := hP b e hp; omega), h.decs.keep (Agree.of_lt hb fun b e hp => by have := hP b e hp; omega)⟩
theorem S2.next {g : Nat} {w W W' : World} {P : Nat → Nat → Prop} {d : Nd} {ks : List Tree} {mv bv kv dv : Value} {D : List Dx} {er er' : Int} (h : S2 g w W P d ks mv bv kv dv D er) (hg : g < w.heap.size) (hP : ∀ b e, P b e → b ≠ g) (ho : Only g W W') (hT : Blk W' g 72 #[dv, .int .i64 er']) : S2 g w W' P d ks mv bv kv dv D er' :=
  ⟨h.only.trans ho, hT, ho.blk h.Q (by omega), ho.blk h.R (by omega), h.nod.keep (Agree.of_only ho hP), h.decs.keep (Agree.of_only ho hP)⟩
/-- the result is stored and returned -/
theorem S2.fin {g : Nat} {w W : World} {P : Nat → Nat → Prop} {d : Nd} {ks : List Tree} {mv bv kv dv : Value} {D : List Dx} {er : Int} (h : S2 g w W P d ks mv bv kv dv D er) (hg : g < w.heap.size) (v : Value) (u0 u1 u2 : Value) : RetT g v #[dv, .int .i64 er] w (.returned v) (((W.setCell ⟨w.heap.size + 1, 0, none⟩ u0).setCell ⟨w.heap.size + 1, 1, none⟩ u1).setCell ⟨w.heap.size + 1, 2, none⟩ u2) :=
  ⟨rfl, ((h.T.far (p := ⟨w.heap.size + 1, 0, none⟩) (by simp only; omega) _).far (p := ⟨w.heap.size + 1, 1, none⟩) (by simp only; omega) _).far (p := ⟨w.heap.size + 1, 2, none⟩) (by simp only; omega) _,
   ((h.only.newCell (p := ⟨w.heap.size + 1, 0, none⟩) (by simp) u0).newCell (p := ⟨w.heap.size + 1, 1, none⟩) (by simp) u1).newCell (p := ⟨w.heap.size + 1, 2, none⟩) (by simp) u2⟩
theorem okU_inU (u : U3) : inU u.1 u.2.1 u.2.2 = okU u := by
  unfold inU okU in3 inR
  simp only [Bool.and_assoc]
set_option maxHeartbeats 1000000 in
theorem limited_any (g : Nat) (dv : Value) (u : U3) (w : World) (hg : Blk w g 72 #[dv, .int .i64 0]) : Calls Tryd.prog 71 #[.pointer (some ⟨g, 0, none⟩), uV u] w (RetT g (uV (limU u).1) #[dv, .int .i64 (limU u).2] w) := by
  obtain ⟨x, y, z⟩ := u
  have gz := hg.lt
  have HG := Box.mk hg
  clear hg
  obtain ⟨q, E⟩ : ∃ q, Box (okU (x, y, z) = q) := ⟨_, ⟨rfl⟩⟩
  obtain ⟨r, hr⟩ : ∃ r, r = limU (x, y, z) := ⟨_, rfl⟩
  rw [← hr]
  have HR := Box.mk hr
  clear hr
  go_enter Tryd.func71, Tryd.ntmps71
  go_wp2_with fail
  refine (uv_any _ _ _ _).mono ?_
  rintro e w1 ⟨rfl, hb⟩
  rw [okU_inU (x, y, z), E.out]
  have HB : Hid (Below w.heap.size w w1 ∧ Blk w1 w.heap.size 23 #[.int .i64 x, .int .i64 y, .int .i64 z] ∧ Blk w1 (w.heap.size + 1) 23 #[.int .i64 0, .int .i64 0, .int .i64 0]) := ⟨bthen (bel2 _ _ _) hb (Nat.le_refl _), ((Blk.new _ _ _).alloc _).below hb, (Blk.newAt _ _ (by simp)).below hb⟩
  clear hb
  cases q
  · have HR2 : Box (r = (u0, 4)) := ⟨by rw [HR.out]; unfold limU; rw [E.out]; rfl⟩
    go_wp2_with fail
    refine (fail_any g _ _ _ ((HB.out.1.block g gz).trans HG.out)).mono ?_
    rintro e w5 ⟨rfl, hT, ho⟩
    have hg1 := HB.out.2.2.lt
    have HR5 : Box (Blk w5 (w.heap.size + 1) 23 #[.int .i64 0, .int .i64 0, .int .i64 0]) := ⟨ho.blk HB.out.2.2 (by omega)⟩
    have HO : Box (Only g w w5) := ⟨(Only.of_below HB.out.1).trans ho⟩
    have HT := Box.mk hT
    clear hT ho HB
    obtain ⟨r0, r1, r2⟩ := HR5.out.c3
    have rf := HR5.out.frozen
    go_wp2_with fail
    exact bodyPost_ret (v := zeroU) (by simp [results, Tryd.results71, go_sem, r0, r1, r2, rf]) rfl (by
      rw [HR2.out]
      exact ⟨rfl, ((HT.out.far (p := ⟨w.heap.size + 1, 0, none⟩) (by simp only; omega) _).far (p := ⟨w.heap.size + 1, 1, none⟩) (by simp only; omega) _).far (p := ⟨w.heap.size + 1, 2, none⟩) (by simp only; omega) _,
        ((HO.out.newCell (p := ⟨w.heap.size + 1, 0, none⟩) (by simp) _).newCell (p := ⟨w.heap.size + 1, 1, none⟩) (by simp) _).newCell (p := ⟨w.heap.size + 1, 2, none⟩) (by simp) _⟩)
  · have HR2 : Box (r = ((x, y, z), 0)) := ⟨by rw [HR.out]; unfold limU; rw [E.out]; rfl⟩
    obtain ⟨p0, p1, p2⟩ := HB.out.2.1.c3
    obtain ⟨r0, r1, r2⟩ := HB.out.2.2.c3
    have rf := HB.out.2.2.frozen
    go_wp2_with fail
    exact bodyPost_ret (v := uV (x, y, z)) (by simp [results, Tryd.results71, go_sem, r0, r1, r2, rf]) rfl (by
      rw [HR2.out]
      have HT : Blk w1 g 72 #[dv, .int .i64 0] := (HB.out.1.block g gz).trans HG.out
      exact ⟨rfl, ((HT.far (p := ⟨w.heap.size + 1, 0, none⟩) (by simp only; omega) _).far (p := ⟨w.heap.size + 1, 1, none⟩) (by simp only; omega) _).far (p := ⟨w.heap.size + 1, 2, none⟩) (by simp only; omega) _,
        (((Only.of_below HB.out.1).newCell (p := ⟨w.heap.size + 1, 0, none⟩) (by simp) _).newCell (p := ⟨w.heap.size + 1, 1, none⟩) (by simp) _).newCell (p := ⟨w.heap.size + 1, 2, none⟩) (by simp) _⟩)
end
section
open Go.RowKit FracM

theorem selU_mem (us vs : List U3) (fn : Int) (h : ∀ x, x ∈ us ↔ x ∈ vs) : selU us fn = selU vs fn := by
  cases us with
  | nil =>
    cases vs with
    | nil => rfl
    | cons v vs => exact absurd ((h v).2 (by simp)) (by simp)
  | cons u us =>
    cases vs with
    | nil => exact absurd ((h u).1 (by simp)) (by simp)
    | cons v vs =>
      have e1 : (u :: us).all okU = (v :: vs).all okU := by
        rw [Bool.eq_iff_iff, List.all_eq_true, List.all_eq_true]
        exact ⟨fun g x hx => g x ((h x).2 hx), fun g x hx => g x ((h x).1 hx)⟩
      have e2 : us.all (fun x => x == u) = vs.all (fun x => x == v) := by
        rw [Bool.eq_iff_iff, List.all_eq_true, List.all_eq_true]
        constructor
        · intro g x hx
          have a : ∀ y ∈ v :: vs, y = u := fun y hy => by
            rcases List.mem_cons.1 ((h y).2 hy) with e | e
            · exact e
            · exact eq_of_beq (g y e)
          rw [a x (by simp [hx]), a v (by simp)]; exact beq_self_eq_true u
        · intro g x hx
          have a : ∀ y ∈ u :: us, y = v := fun y hy => by
            rcases List.mem_cons.1 ((h y).1 hy) with e | e
            · exact e
            · exact eq_of_beq (g y e)
          rw [a x (by simp [hx]), a u (by simp)]; exact beq_self_eq_true v
      unfold selU
      simp only [e1, e2]
      split
      · rfl
      · split
        · rfl
        · next h2 =>
          have e3 : u = v := by
            rcases List.mem_cons.1 ((h u).1 (by simp)) with e | e
            · exact e
            · have := h2
              simp only [Bool.not_eq_false] at this
              rw [List.all_eq_true] at this
              exact eq_of_beq (this u e)
          rw [e3]
theorem unit_congr {ns : List ByteArray} {most : Int} (D E : List Dc) (hD : ∀ d : Nd, d.name ∈ ns → ∀ x, x ∈ hits D d ↔ x ∈ hits E d) {t : Tree} (h : GoodT ns most t) : unitM D t = unitM E t := by
  induction h with
  | mk d ks h hk ih =>
    have e : unitL D ks = unitL E ks := by
      clear h hk
      induction ks with
      | nil => rfl
      | cons t ts ih2 => rw [unitL, unitL, ih t (by simp), ih2 (fun x hx => ih x (by simp [hx]))]
    rw [unitM, unitM, e]
    have e2 : ∀ us, finM D d ks us = finM E d ks us := by
      intro us
      unfold finM
      split
      · next hk1 =>
        have hn : d.name ∈ ns := by
          generalize ks.length = n at h
          cases h <;> simp_all
        exact selU_mem _ _ _ (hD d hn)
      · rfl
    rw [e2]
theorem of_congr {ns : List ByteArray} {most : Int} (D E : List Dc) (hD : ∀ d : Nd, d.name ∈ ns → ∀ x, x ∈ hits D d ↔ x ∈ hits E d) {t : Tree} (h : GoodT ns most t) : ofM D t = ofM E t := by
  unfold ofM; rw [unit_congr D E hD h]
theorem turned_hits (D : List Dc) (o : Dc) (k : Nat) (ns : List ByteArray) (ho : ∀ x ∈ ns, (o.1.toList == x.toList) = false) (d : Nd) (hd : d.name ∈ ns) (x : U3) : x ∈ hits D d ↔ x ∈ hits (D.drop k ++ o :: D.take k) d := by
  unfold hits
  have hf : hitB d o = false := by unfold hitB; rw [ho _ hd]; rfl
  conv => lhs; rw [← List.take_append_drop k D]
  simp only [List.filter_append, List.filter_cons, hf, List.map_append, List.mem_append]
  constructor
  · intro h; rcases h with h | h
    · exact .inr (by simpa using h)
    · exact .inl h
  · intro h; rcases h with h | h
    · exact .inr h
    · exact .inl (by simpa using h)

theorem lim_ok {u v : U3} (h : limU u = (v, 0)) : okU v = true := by
  unfold limU at h
  split at h
  · next ho => cases h; exact ho
  · cases h
theorem okU0 : okU u0 = true := rfl
theorem sel_ok {us : List U3} {fn : Int} {v : U3} (h : selU us fn = (v, 0)) : okU v = true := by
  cases us with
  | nil => simp [selU] at h
  | cons u us =>
    unfold selU at h
    simp only at h
    split at h
    · cases h
    · split at h
      · cases h
      · exact lim_ok h
theorem unit_ok (D : List Dc) : ∀ t u, unitM D t = (u, 0) → okU u = true := by
  refine Tree.ind ?_
  intro d ks ih u h
  rw [unitM] at h
  have hL : ∀ ts : List Tree, (∀ t ∈ ts, t ∈ ks) → (unitL D ts).2 = 0 → ∀ v ∈ (unitL D ts).1, okU v = true := by
    intro ts
    induction ts with
    | nil => intro _ _ v hv; simp [unitL] at hv
    | cons t ts ih2 =>
      intro hm h0 v hv
      rw [unitL] at h0 hv
      by_cases ht : (unitM D t).2 = 0
      · rw [if_pos ht] at h0 hv
        rcases List.mem_cons.1 hv with e | e
        · rw [e]; exact ih t (hm t (by simp)) _ (Prod.ext rfl ht)
        · exact ih2 (fun x hx => hm x (by simp [hx])) h0 v e
      · rw [if_neg ht] at h0; exact absurd h0 ht
  by_cases h0 : (unitL D ks).2 = 0
  · rw [if_pos h0] at h
    have hA := hL ks (fun _ h => h) h0
    generalize (unitL D ks).1 = us at h hA
    unfold finM at h
    split at h
    · exact sel_ok h
    · split at h
      · split at h
        · cases h
        · split at h
          · cases h; exact okU0
          · cases us with
            | nil => simp at h; rw [← h]; exact okU0
            | cons x xs => simp at h; rw [← h]; exact hA x (by simp)
      · split at h
        · unfold binM at h
          split at h
          · split at h
            · cases h
            · split at h
              · exact lim_ok h
              · split at h
                · exact lim_ok h
                · split at h
                  · cases h; exact hA _ (by simp)
                  · cases h
          · cases h; exact okU0
        · cases h; exact okU0
  · rw [if_neg h0] at h; exact absurd (congrArg Prod.snd h) h0
theorem okU_in {u : U3} (h : okU u = true) : (-3 ≤ u.1 ∧ u.1 ≤ 3) ∧ (-3 ≤ u.2.1 ∧ u.2.1 ≤ 3) ∧ (-3 ≤ u.2.2 ∧ u.2.2 ≤ 3) := by
  simpa [okU, in3, and_assoc] using h
theorem sub_self (u : U3) : subU u u = u0 := by
  unfold subU u0; simp only [Int.sub_self]; rfl
theorem add_zero {u : U3} (h : okU u = true) : addU u0 u = u := by
  obtain ⟨h1, h2, h3⟩ := okU_in h
  obtain ⟨a, b, c⟩ := u
  simp only at h1 h2 h3
  unfold addU u0
  simp only [Int.zero_add]
  rw [W64_in (by omega) (by omega), W64_in (by omega) (by omega), W64_in (by omega) (by omega)]
theorem rl_zero {ns : List ByteArray} {most : Int} (D : List Dc) {t : Tree} (h : GoodT ns most t) : rlB t = true → ∀ u, unitM D t = (u, 0) → u = u0 := by
  induction h with
  | mk d ks h hk ih =>
    intro hr u hu
    rw [rlB] at hr
    rw [unitM] at hu
    generalize hl : ks.length = n at h
    cases h with
    | num x hx =>
      obtain rfl := List.eq_nil_of_length_eq_zero hl
      simp [unitL, finM] at hu; exact hu.symm
    | sel => simp at hr
    | grp => simp at hr
    | bin fn h1 h2 =>
      match ks, hl with
      | [a, b], _ =>
        simp [rlL] at hr
        have ia := ih a (by simp) hr.1
        have ib := ih b (by simp) hr.2
        by_cases e1 : (unitM D a).2 = 0
        · by_cases e2 : (unitM D b).2 = 0
          · have ua := ia _ (Prod.ext rfl e1)
            have ub := ib _ (Prod.ext rfl e2)
            have z1 : limU (addU u0 u0) = (u0, 0) := rfl
            have z2 : limU (subU u0 u0) = (u0, 0) := rfl
            simp [unitL, e1, e2, ua, ub, finM, binM, hr.1, z1, z2] at hu
            exact hu.symm
          · simp [unitL, e1, e2] at hu
        · simp [unitL, e1] at hu

/-- the expressions of the law -/
def qN (fn : Int) : Nd := ⟨3, fn, 0, 0, 0, 0, 0, ⟨#[]⟩, [], []⟩
def qT (fn : Int) (a b : Tree) : Tree := .node (qN fn) [a, b]
def cN : Nd := ⟨2, 3, 0, 0, 0, 0, 0, ⟨#[]⟩, [], []⟩
def cT (e : Tree) : Tree := .node cN [e]
theorem qT_good {ns : List ByteArray} {most : Int} {a b : Tree} (fn : Int) (h1 : 0 ≤ fn) (h2 : fn < 4) (ha : GoodT ns most a) (hb : GoodT ns most b) : GoodT ns most (qT fn a b) :=
  .mk _ _ (.bin fn h1 h2) (fun t ht => by simp at ht; rcases ht with rfl | rfl <;> assumption)
theorem cT_good {ns : List ByteArray} {most : Int} {a : Tree} (ha : GoodT ns most a) : GoodT ns most (cT a) :=
  .mk _ _ (.grp 3 0 [] (by omega) (by omega) (.inl ⟨by omega, rfl⟩) (List.nil_sublist _)) (fun t ht => by simp at ht; rcases ht with rfl; assumption)
theorem qT_size (fn : Int) (a b : Tree) : dep (qT fn a b) = max (dep a) (dep b) + 1 ∧ nds (qT fn a b) = nds a + nds b + 1 := by
  unfold qT; rw [dep, nds, depL, depL, depL, ndsL, ndsL, ndsL]; omega
theorem cT_size (a : Tree) : dep (cT a) = dep a + 1 ∧ nds (cT a) = nds a + 1 := by
  unfold cT; rw [dep, nds, depL, depL, ndsL, ndsL]; omega
theorem unitM_bad {D : List Dc} {d : Nd} {t : Tree} {ts : List Tree} (h : (unitM D t).2 ≠ 0) : unitM D (.node d (t :: ts)) = (u0, (unitM D t).2) := by
  rw [unitM, unitL, if_neg h, if_neg h]
theorem quot_bad {D : List Dc} {e : Tree} (h : (unitM D e).2 ≠ 0) : unitM D (qT 3 e e) = (u0, (unitM D e).2) ∧ unitM D (qT 1 e e) = (u0, (unitM D e).2) ∧ unitM D (qT 2 (qT 3 e e) e) = (u0, (unitM D e).2) ∧ unitM D (cT e) = (u0, (unitM D e).2) := by
  have h1 : unitM D (qT 3 e e) = (u0, (unitM D e).2) := unitM_bad h
  refine ⟨h1, unitM_bad h, ?_, unitM_bad h⟩
  have h2 : (unitM D (qT 3 e e)).2 ≠ 0 := by rw [h1]; exact h
  have := unitM_bad (d := qN 2) (ts := [e]) h2
  rw [h1] at this
  exact this
theorem q_same (D : List Dc) (e : Tree) {u : U3} (h : unitM D e = (u, 0)) : unitM D (qT 3 e e) = (u0, 0) ∧ unitM D (qT 1 e e) = (u, 0) := by
  have z : limU u0 = (u0, 0) := rfl
  constructor
  · unfold qT; rw [unitM]; simp [unitL, h, finM, binM, qN, sub_self, z]
  · unfold qT; rw [unitM]; simp [unitL, h, finM, binM, qN]
theorem q_prod (D : List Dc) (e : Tree) {u : U3} (h : unitM D e = (u, 0)) : unitM D (qT 2 (qT 3 e e) e) = (u, 0) := by
  have h1 := (q_same D e h).1
  have ho := unit_ok D e u h
  have z : limU u = (u, 0) := by unfold limU; rw [if_pos ho]
  have hr : rlB (qT 3 e e) = rlB e := by unfold qT; rw [rlB]; simp [qN, rlL]
  have hw : rlB e = false → rw1 (qT 3 e e) = rw1 e := by
    intro h; unfold qT; rw [rw1]; simp [qN, rwL, h]
  unfold qT at h1 hr hw ⊢
  rw [unitM]
  simp only [unitL, h1, h, finM, binM, hr]
  simp only [qN]
  by_cases hrl : rlB e = true
  · simp [hrl, add_zero ho, z]
  · have hrl : rlB e = false := by simpa using hrl
    have hw := hw hrl
    unfold qN at hw
    simp [hrl, hw, add_zero ho, z]
theorem q_count (D : List Dc) (e : Tree) {u : U3} (h : unitM D e = (u, 0)) : unitM D (cT e) = (u0, if rlB e then 7 else 0) := by
  unfold cT; rw [unitM]
  simp [unitL, h, finM, cN, rlL]
  cases rlB e <;> simp
end
end Go.Proofs.YtgomgoacponbkaaDoor
