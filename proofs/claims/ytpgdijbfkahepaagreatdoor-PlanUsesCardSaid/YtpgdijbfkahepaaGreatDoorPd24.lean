/- Contracts, packed: Ra. -/
import Derived.Test.YtpgdijbfkahepaaGreatDoorPd10
import Derived.Test.YtpgdijbfkahepaaGreatDoorPd12
import Derived.Test.YtpgdijbfkahepaaGreatDoorPd16
import Derived.Deep.DeepCutAuto
set_option linter.unusedVariables false
set_option linter.unusedSimpArgs false
namespace Go.Proofs.YtpgdijbfkahepaaGreatDoor
section
open Go.RowKit FracM
/-- a declaration with the value of its labels and its other numbers -/
structure Dx where
 dc : Dc
 lv : Value
 o : Nat → Int
abbrev dcC (x : Dx) : Array Value := #[.string x.dc.1, x.lv, .int .i64 x.dc.2.2.1, .int .i64 x.dc.2.2.2.1, .int .i64 x.dc.2.2.2.2, .int .i64 (x.o 0), .int .i64 (x.o 1), .int .i64 (x.o 2), .int .i64 (x.o 3), .int .i64 (x.o 4), .int .i64 (x.o 5), .int .i64 (x.o 6)]
def dcL (x : Dx) : List Value := (dcC x).toList
def unitsL : List U3 := [(0, 0, 1), (0, 1, 0), (1, 0, 0), (0, 0, 0), (-2, 0, 3), (0, -3, -3), (4, 0, 0), (0, 0, -4)]
def unitCells (u : U3) : List Value := [.int .i64 u.1, .int .i64 u.2.1, .int .i64 u.2.2]
theorem declInfo : (Tryz.prog.info? 49).map (fun i => (i.zero, i.size, i.bytes)) = some (some (.agg #[.string ⟨#[]⟩, .slice none 0 0, .int .i64 0, .int .i64 0, .int .i64 0, .int .i64 0, .int .i64 0, .int .i64 0, .int .i64 0, .int .i64 0, .int .i64 0, .int .i64 0]), 12, 120) := by kernel_rfl
/-- a declaration of the generator -/
structure GoodD (w : World) (base : Nat) (x : Dx) : Prop where
 labs : Labs w base x.lv x.dc.2.1
 good : ∀ y ∈ x.dc.2.1, GoodLab y
 few : x.dc.2.1.length ≤ 6
 name : x.dc.1 ∈ ns3
 unit : x.dc.2.2 ∈ unitsL
theorem GoodD.below {w w' : World} {base : Nat} {x : Dx} (h : GoodD w base x) (f : Below w.heap.size w w') : GoodD w' base x := ⟨h.labs.below f, h.good, h.few, h.name, h.unit⟩
theorem GoodD.keep {w w' : World} {base : Nat} {T : List TypeId} {x : Dx} (h : GoodD w base x) (f : Fr base T w w') (ht : 65 ∉ T) : GoodD w' base x := ⟨h.labs.keep f ht, h.good, h.few, h.name, h.unit⟩
theorem fr0 {base : Nat} {T : List TypeId} {w w' : World} (h : Fr base T w w') : Fr 0 T w w' := ⟨h.os, h.tape, h.output, h.size, fun k hk hc => h.block k hk (hc.imp (fun h => absurd h (by omega)) id)⟩
def Units (w : World) (base : Nat) (v : Value) : Prop := Seq w base 43 3 v 8 (unitsL.flatMap unitCells)
/-- declarations are returned -/
def RetDs (w : World) (e : Ending) (w' : World) : Prop := ∃ (D : List Dx) (A : Option Addr) (n c : Nat), e = .returned (.slice A n c) ∧ w'.ownsRow w.heap.size 49 12 (.slice A n c) D.length (D.flatMap dcL) ∧ D.length ≤ 5 ∧ (∀ x ∈ D, GoodD w' 0 x) ∧ Below w.heap.size w w'
def DsRel (w : World) (m : Int) (nv uv v i : Value) (wr : World) : Prop :=
 ∃ (n : Nat) (D : List Dx), (n : Int) ≤ m ∧ i = .int .i64 n ∧ D.length = n ∧ (∀ x ∈ D, GoodD wr 0 x) ∧ wr.ownsRow w.heap.size 49 12 v n (D.flatMap dcL) ∧ Strs wr w.heap.size nv ns3 ∧ Units wr w.heap.size uv ∧ Below w.heap.size w wr
theorem dc_one (x : Dx) (hx : ∃ A n c, x.lv = .slice A n c) : ∀ u ∈ dcL x, u.oneCell' = true := by
 obtain ⟨A, n, c, hx⟩ := hx
 intro u hu
 simp [dcL, dcC, hx] at hu
 rcases hu with rfl | rfl | rfl | rfl | rfl | rfl | rfl | rfl | rfl | rfl | rfl | rfl <;> rfl
theorem cells12 (w : World) (t : TypeId) (v0 v1 v2 v3 v4 v5 v6 v7 v8 v9 v10 v11 : Value) : ∀ j u, [v0, v1, v2, v3, v4, v5, v6, v7, v8, v9, v10, v11][j]? = some u → (w.alloc (.cells #[v0, v1, v2, v3, v4, v5, v6, v7, v8, v9, v10, v11] t)).cell? ((⟨w.heap.size, 0, none⟩ : Addr).add j) = some u := by
 intro j u hj
 have hb := Blk.new w #[v0, v1, v2, v3, v4, v5, v6, v7, v8, v9, v10, v11] t
 unfold Blk at hb
 have : ((⟨w.heap.size, 0, none⟩ : Addr).add j) = ⟨w.heap.size, j, none⟩ := by
  unfold Addr.add; split
  ·next h => subst h; rfl
  ·simp
 rw [this]
 simp only [World.cell?, hb]
 simpa using hj
/-- a unit of the list in memory -/
theorem Units.at_ {w : World} {base : Nat} {A : Option Addr} {n c : Nat} (h : Units w base (.slice A n c)) (q : Nat) (hq : q < 8) : ∃ b off u, A = some ⟨b, off, none⟩ ∧ Fit w base 43 b ∧ unitsL[q]? = some u ∧ w.cell? ⟨b, off + q * 3, none⟩ = some (.int .i64 u.1) ∧ w.cell? ⟨b, off + q * 3 + 1, none⟩ = some (.int .i64 u.2.1) ∧ w.cell? ⟨b, off + q * 3 + 2, none⟩ = some (.int .i64 u.2.2) := by
 obtain ⟨h1, A', c', hv, _, _, h2⟩ := h
 cases hv
 obtain ⟨b, off, rfl, hf, hx⟩ := h2 (by omega)
 obtain ⟨u, hu⟩ : ∃ u, unitsL[q]? = some u := ⟨unitsL[q]'(by simp [unitsL]; omega), List.getElem?_eq_getElem _⟩
 have g := fun j (hj : j < 3) => flat_get unitCells 3 (fun _ => rfl) unitsL q j _ hu hj
 refine ⟨b, off, u, rfl, hf, hu, ?_, ?_, ?_⟩
 ·exact hx _ _ ((g 0 (by omega)).trans rfl)
 ·rw [Nat.add_assoc]; exact hx _ _ ((g 1 (by omega)).trans rfl)
 ·rw [Nat.add_assoc]; exact hx _ _ ((g 2 (by omega)).trans rfl)
theorem Strs.at_ {w : World} {base n c : Nat} {A : Option Addr} {l : List ByteArray} (h : Strs w base (.slice A n c) l) (k : Nat) (hk : k < l.length) : ∃ b off x, A = some ⟨b, off, none⟩ ∧ Fit w base 9 b ∧ l[k]? = some x ∧ w.cell? ⟨b, off + k, none⟩ = some (.string x) := by
 obtain ⟨h1, A', c', hv, _, _, h2⟩ := h
 cases hv
 obtain ⟨b, off, rfl, hf, hx⟩ := h2 (by omega)
 exact ⟨b, off, l[k], rfl, hf, List.getElem?_eq_getElem hk, hx k _ (by rw [List.getElem?_map, List.getElem?_eq_getElem hk]; rfl)⟩
theorem Ints.new (w : World) (base : Nat) (l : List Int) (cs : Array Value) (h : cs.toList = l.map (Value.int .i64)) (hl : l.length ≤ 1000) (hx : ∀ x ∈ l, I64 x) : Ints (w.alloc (.cells cs 3)) base (.slice (some ⟨w.heap.size, 0, none⟩) l.length l.length) l := by
 refine ⟨⟨by simp, _, _, rfl, Nat.le_refl _, by unfold maxLen; omega, fun _ => ⟨w.heap.size, 0, rfl, ⟨by simp, .inr ⟨_, _, heap_alloc_new w _⟩⟩, ?_⟩⟩, hx⟩
 intro j u hj
 rw [← h] at hj
 have := cell_of_row (w.alloc (.cells cs 3)) w.heap.size (0 + j) cs 3 (0, 0) (heap_alloc_new w _)
 rw [this, Nat.zero_add]
 simpa using hj
set_option maxRecDepth 100000 in
set_option maxHeartbeats 4000000 in
theorem decls_any (A : Option Addr) (n c : Nat) (l : List Int) (w : World) (h : Ints w w.heap.size (.slice A n c) l) :
    Calls Tryz.prog 4 #[.slice A n c] w (RetDs w) := by
  obtain ⟨j0, hj, hy0, hy1, hy2⟩ := info_parts declInfo
  obtain ⟨hp1, hp2⟩ := pick_bd l 0 6 (by omega)
  have HI := Lib.hid h
  have HJ := Lib.hid (And.intro hj (And.intro hy0 (And.intro hy1 hy2)))
  clear h hj hy0 hy1 hy2
  go_enter Tryz.func4, Tryz.ntmps4
  go_upto_region 3 with (fail)
  have HS : Box (Strs ((w.alloc (.cells #[.string ⟨#[99, 112, 117]⟩, .string ⟨#[109, 101, 109]⟩, .string ⟨#[97]⟩] 9)).alloc (.cells #[.int .i64 0, .int .i64 0, .int .i64 1, .int .i64 0, .int .i64 1, .int .i64 0, .int .i64 1, .int .i64 0, .int .i64 0, .int .i64 0, .int .i64 0, .int .i64 0, .int .i64 (-2), .int .i64 0, .int .i64 3, .int .i64 0, .int .i64 (-3), .int .i64 (-3), .int .i64 4, .int .i64 0, .int .i64 0, .int .i64 0, .int .i64 0, .int .i64 (-4)] 43)) w.heap.size (.slice (some ⟨w.heap.size, 0, none⟩) 3 3) ns3 ∧ Units ((w.alloc (.cells #[.string ⟨#[99, 112, 117]⟩, .string ⟨#[109, 101, 109]⟩, .string ⟨#[97]⟩] 9)).alloc (.cells #[.int .i64 0, .int .i64 0, .int .i64 1, .int .i64 0, .int .i64 1, .int .i64 0, .int .i64 1, .int .i64 0, .int .i64 0, .int .i64 0, .int .i64 0, .int .i64 0, .int .i64 (-2), .int .i64 0, .int .i64 3, .int .i64 0, .int .i64 (-3), .int .i64 (-3), .int .i64 4, .int .i64 0, .int .i64 0, .int .i64 0, .int .i64 0, .int .i64 (-4)] 43)) w.heap.size (.slice (some ⟨w.heap.size + 1, 0, none⟩) 8 8) ∧ Below w.heap.size w ((w.alloc (.cells #[.string ⟨#[99, 112, 117]⟩, .string ⟨#[109, 101, 109]⟩, .string ⟨#[97]⟩] 9)).alloc (.cells #[.int .i64 0, .int .i64 0, .int .i64 1, .int .i64 0, .int .i64 1, .int .i64 0, .int .i64 1, .int .i64 0, .int .i64 0, .int .i64 0, .int .i64 0, .int .i64 0, .int .i64 (-2), .int .i64 0, .int .i64 3, .int .i64 0, .int .i64 (-3), .int .i64 (-3), .int .i64 4, .int .i64 0, .int .i64 0, .int .i64 0, .int .i64 0, .int .i64 (-4)] 43))) := ⟨by
    refine ⟨(Strs.new w w.heap.size ns3 #[.string ⟨#[99, 112, 117]⟩, .string ⟨#[109, 101, 109]⟩, .string ⟨#[97]⟩] rfl (by decide)).below (bel1 _ _), ?_, bel2 _ _ _⟩
    refine ⟨rfl, _, _, rfl, by omega, by unfold maxLen; omega, fun _ => ⟨w.heap.size + 1, 0, rfl, ⟨by simp, .inr ⟨_, (0, 0), Blk.newAt _ _ (by simp)⟩⟩, fun j u hu => ?_⟩⟩
    have hb := Blk.newAt (w := w.alloc (.cells #[.string ⟨#[99, 112, 117]⟩, .string ⟨#[109, 101, 109]⟩, .string ⟨#[97]⟩] 9)) (k := w.heap.size + 1) #[.int .i64 0, .int .i64 0, .int .i64 1, .int .i64 0, .int .i64 1, .int .i64 0, .int .i64 1, .int .i64 0, .int .i64 0, .int .i64 0, .int .i64 0, .int .i64 0, .int .i64 (-2), .int .i64 0, .int .i64 3, .int .i64 0, .int .i64 (-3), .int .i64 (-3), .int .i64 4, .int .i64 0, .int .i64 0, .int .i64 0, .int .i64 0, .int .i64 (-4)] 43 (by simp)
    unfold Blk at hb
    simp only [World.cell?, hb]
    simpa [unitsL, unitCells] using hu⟩
  generalize ((w.alloc (.cells #[.string ⟨#[99, 112, 117]⟩, .string ⟨#[109, 101, 109]⟩, .string ⟨#[97]⟩] 9)).alloc (.cells #[.int .i64 0, .int .i64 0, .int .i64 1, .int .i64 0, .int .i64 1, .int .i64 0, .int .i64 1, .int .i64 0, .int .i64 0, .int .i64 0, .int .i64 0, .int .i64 0, .int .i64 (-2), .int .i64 0, .int .i64 3, .int .i64 0, .int .i64 (-3), .int .i64 (-3), .int .i64 4, .int .i64 0, .int .i64 0, .int .i64 0, .int .i64 0, .int .i64 (-4)] 43)) = W at HS ⊢
  go_wp2_with fail
  go_loopw [5, 6] (fun v i wr => DsRel w (pickZ l 0 6) (.slice (some ⟨w.heap.size, 0, none⟩) 3 3) (.slice (some ⟨w.heap.size + 1, 0, none⟩) 8 8) v i wr) (fun _ i _ => (pickZ l 0 6 - intOf i).toNat)
  case atStart => exact ⟨0, [], by omega, rfl, rfl, fun x hx => by simp at hx, World.ownsRow_nil _ _ _ _, HS.out.1, HS.out.2.1, HS.out.2.2⟩
  case round =>
    obtain ⟨n', D, hk, rfl, hlen, hgood, hown, hsn, hsu, hbw⟩ := hrel
    have hsz := hbw.size
    clear HS
    have HIr := Lib.hid (HI.out.below hbw)
    have HR := Lib.hid (And.intro hlen (And.intro hgood (And.intro hown (And.intro hsn (And.intro hsu hbw)))))
    clear hlen hgood hown hsn hsu hbw
    by_cases hlt : (n' : Int) < pickZ l 0 6
    · have t0 : IntKind.i64.wrap (4 * (n' : Int)) = 4 * (n' : Int) := W64_in (by omega) (by omega)
      have t1 : IntKind.i64.wrap (4 * (n' : Int) + 1) = 4 * (n' : Int) + 1 := W64_in (by omega) (by omega)
      have t2 : IntKind.i64.wrap (4 * (n' : Int) + 2) = 4 * (n' : Int) + 2 := W64_in (by omega) (by omega)
      have t3 : IntKind.i64.wrap (4 * (n' : Int) + 3) = 4 * (n' : Int) + 3 := W64_in (by omega) (by omega)
      go_upto_region 7 with (first | (go_at_call 12; refine (pick_any _ _ _ w.heap.size l _ _ _ HIr.out (by omega) (by omega)).mono ?_; rintro e w' ⟨rfl, rfl⟩))
      go_cut [7] (fun x wx => ∃ kk : Nat, kk < 3 ∧ x = .int .i64 kk ∧ wr = wx)
      case first =>
        go_wp2_with (go_at_call 12; refine (pick_any _ _ _ w.heap.size l _ _ _ HIr.out (by omega) (by omega)).mono ?_; rintro e w' ⟨rfl, rfl⟩)
        go_meet
        obtain ⟨q1, q2⟩ := pick_bd l (4 * (n' : Int) + 1) 3 (by omega)
        exact ⟨(pickZ l (4 * (n' : Int) + 1) 3).toNat, by omega, by rw [Int.toNat_of_nonneg q1], rfl⟩
      case rest =>
        obtain ⟨kk, hkk, rfl, hwx⟩ := hcut
        subst hwx
        obtain ⟨q1, q2⟩ := pick_bd l (4 * (n' : Int) + 2) 40 (by omega)
        go_upto_if 40 with (go_at_call 12; refine (pick_any _ _ _ w.heap.size l _ _ _ HIr.out (by omega) (by omega)).mono ?_; rintro e w' ⟨rfl, rfl⟩)
        go_cut [8] (fun x w2 => ∃ q : Nat, q < 8 ∧ x = .int .i64 q ∧ wr = w2)
        case first =>
          by_cases h8 : 8 ≤ pickZ l (4 * (n' : Int) + 2) 40
          · go_wp2_with fail
            go_meet
            exact ⟨kk, by omega, rfl, rfl⟩
          · go_wp2_with fail
            go_meet
            exact ⟨(pickZ l (4 * (n' : Int) + 2) 40).toNat, by omega, by rw [Int.toNat_of_nonneg q1], rfl⟩
        case rest =>
          clear q1 q2
          obtain ⟨q, hq, rfl, hwx⟩ := hcut
          subst hwx
          obtain ⟨q1, q2⟩ := pick_bd l (4 * (n' : Int) + 3) 100000 (by omega)
          have hkk2 : (kk : Int) < 3 := by omega
          have hq3 : (q : Int) < 8 := by omega
          go_wp2_with (go_at_call 12; refine (pick_any _ _ _ w.heap.size l _ _ _ HIr.out (by omega) (by omega)).mono ?_; rintro e w' ⟨rfl, rfl⟩)
          refine (set_any _ _ _ 0 [pickZ l (4 * (n' : Int) + 3) 100000, pickZ l (4 * (n' : Int) + 3) 100000 / 64, pickZ l (4 * (n' : Int) + 3) 100000 / 64, pickZ l (4 * (n' : Int) + 3) 100000 / 64, pickZ l (4 * (n' : Int) + 3) 100000 / 64, pickZ l (4 * (n' : Int) + 3) 100000 / 64, pickZ l (4 * (n' : Int) + 3) 100000 / 64] _ (Ints.new wr 0 _ _ rfl (by simp) (by simp [I64]; omega)) (Nat.zero_le _)).mono ?_
          rintro e w5 ⟨ls, A5, n5, c5, rfl, hls, hb5, hfew, hgl⟩
          obtain ⟨rfl, -⟩ := hls.len
          have hb5' := (bel1 wr _).trans (hb5.mono (by simp))
          have hsz5 := hb5'.size
          obtain ⟨b1, off1, x1, hA1, hf1, hx1, hc1⟩ := (HR.out.2.2.2.1.below hb5').at_ kk (by simpa [ns3] using hkk)
          obtain ⟨b2, off2, un, hA2, hf2, hun, u0, u1, u2⟩ := Units.at_ (w := w5) (base := w.heap.size) (Seq.below HR.out.2.2.2.2.1 hb5') q hq
          simp only [Option.some.injEq, Addr.mk.injEq, and_true] at hA1 hA2
          obtain ⟨rfl, rfl⟩ := hA1
          obtain ⟨rfl, rfl⟩ := hA2
          simp only [Nat.zero_add] at hc1 u0 u1 u2
          have HFT := Lib.hid (And.intro hf1 hf2)
          have HC := Lib.hid (And.intro hc1 (And.intro u0 (And.intro u1 u2)))
          have HOW := Lib.hid (own_below HR.out.2.2.1 hb5')
          have HG5 : Hid (GoodD w5 0 ⟨(x1, ls, un), .slice A5 ls.length c5, fun _ => 0⟩) := ⟨hls, hgl, hfew, List.mem_of_getElem? hx1, List.mem_of_getElem? hun⟩
          have HB5 := Lib.hid hb5'
          clear hls hb5 hb5' hfew hgl hf1 hf2 hx1 hun t0 t1 t2 t3 q1 q2
          go_wp2_with fail
          go_region_held3 (fun w' => w'.cell? ⟨w.heap.size, kk, none⟩ = some (.string x1) ∧ w'.cell? ⟨w.heap.size + 1, q * 3, none⟩ = some (.int .i64 un.1) ∧ w'.cell? ⟨w.heap.size + 1, q * 3 + 1, none⟩ = some (.int .i64 un.2.1) ∧ w'.cell? ⟨w.heap.size + 1, q * 3 + 2, none⟩ = some (.int .i64 un.2.2)) (first | go_keep | exact HK9.out)
            (first
              | (refine step_append_lies _ rfl _ _ 23 rfl w.heap.size 49 j0 _ 12 120 Tryz.underlying23 HJ.out.1 HJ.out.2.1 HJ.out.2.2.1 HJ.out.2.2.2 rfl (by decide) u5 n' (D.flatMap dcL) rfl (by exact HOW.out.alloc _) ⟨w5.heap.size, 0, none⟩ 1 1 (dcL ⟨(x1, ls, un), .slice A5 ls.length c5, fun _ => 0⟩) rfl rfl (cells12 _ _ _ _ _ _ _ _ _ _ _ _ _ _) (dc_one _ ⟨_, _, _, rfl⟩) (by decide) (by unfold maxLen; omega) (by omega) (by simp; omega) _ rfl ?_
                 intro g cap w9 hown9 hg9 hat9 hlt9
                 have HF9 : Hid (Fr w.heap.size [49] w5 w9) := grow_fr HOW.out (by first | exact bel1 _ _ | exact (bel1 _ _).drew) hg9
                 have HK9 : Hid (w9.cell? ⟨w.heap.size, kk, none⟩ = some (.string x1) ∧ w9.cell? ⟨w.heap.size + 1, q * 3, none⟩ = some (.int .i64 un.1) ∧ w9.cell? ⟨w.heap.size + 1, q * 3 + 1, none⟩ = some (.int .i64 un.2.1) ∧ w9.cell? ⟨w.heap.size + 1, q * 3 + 2, none⟩ = some (.int .i64 un.2.2)) := ⟨fit_cell HFT.out.1 HF9.out (by decide) HC.out.1, fit_cell HFT.out.2 HF9.out (by decide) HC.out.2.1, fit_cell HFT.out.2 HF9.out (by decide) HC.out.2.2.1, fit_cell HFT.out.2 HF9.out (by decide) HC.out.2.2.2⟩
                 have HO9 := Lib.hid hown9
                 clear hown9 hg9 hat9))
          have HFIN : Hid (w9.ownsRow w.heap.size 49 12 (.slice (some ⟨g, 0, none⟩) (n' + 1) cap) (n' + 1) ((D ++ [(⟨(x1, ls, un), .slice A5 ls.length c5, fun _ => 0⟩ : Dx)]).flatMap dcL)) := by rw [Hid, List.flatMap_append]; simpa using HO9.out
          clear HO9
          go_wp2
          go_roundw
          case rel =>
            refine ⟨n' + 1, D ++ [⟨(x1, ls, un), .slice A5 ls.length c5, fun _ => 0⟩], by omega, by go_num, by simp [HR.out.1], fun x hx => ?_, HFIN.out, (HR.out.2.2.2.1.below HB5.out).keep HF9.out (by decide), Seq.keep (Seq.below HR.out.2.2.2.2.1 HB5.out) HF9.out (by decide), (HR.out.2.2.2.2.2.trans (HB5.out.mono hsz)).trans (fr_below HF9.out (by omega))⟩
            rcases List.mem_append.1 hx with hx | hx
            · exact ((HR.out.2.1 x hx).below HB5.out).keep (fr0 HF9.out) (by decide)
            · simp at hx; subst hx; exact HG5.out.keep (fr0 HF9.out) (by decide)
          case measure => simp [intOf]; omega
    · obtain ⟨A2, c2, hv2⟩ := own_form HR.out.2.2.1
      have HV := Lib.hid hv2
      clear hv2
      go_wp2_with (go_at_call 12; refine (pick_any _ _ _ w.heap.size l _ _ _ HIr.out (by omega) (by omega)).mono ?_; rintro e w' ⟨rfl, rfl⟩)
      go_ret
      refine ⟨D, A2, n', c2, congrArg Ending.returned HV.out, ?_, by have := HR.out.1; omega, HR.out.2.1, HR.out.2.2.2.2.2⟩
      have := HR.out.2.2.1
      rw [HV.out] at this; rw [HR.out.1]; exact this
end
end Go.Proofs.YtpgdijbfkahepaaGreatDoor
