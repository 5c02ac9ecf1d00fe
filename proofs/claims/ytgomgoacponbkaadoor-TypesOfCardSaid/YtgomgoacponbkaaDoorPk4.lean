/- Contracts, packed: Qs Qg Qh Qi Yb. -/
import Derived.Test.YtgomgoacponbkaaDoorPk3
import Derived.Maps.AppendAt
import Derived.Deep.AppendLies
import Derived.Laws.OwnMore
import Derived.IntWalk
set_option linter.unusedVariables false
set_option linter.unusedSimpArgs false
namespace Go.Proofs.YtgomgoacponbkaaDoor
section
open Go.RowKit

/-- block b is a row of cells of element type t -/
def TyAt (w : World) (b : Nat) (t : TypeId) : Prop := ∃ cs fz, w.heap[b]? = some (.cells cs t fz)
theorem TyAt.set {w : World} {b : Nat} {t : TypeId} (h : TyAt w b t) (a : Addr) (v : Value) : TyAt (w.setCell a v) b t := by
  obtain ⟨cs, fz, h⟩ := h
  simp only [TyAt, World.setCell, Array.getElem?_modify, h]
  split
  · exact ⟨_, _, rfl⟩
  · exact ⟨_, _, rfl⟩
theorem TyAt.lt {w : World} {b : Nat} {t : TypeId} (h : TyAt w b t) : b < w.heap.size := by
  obtain ⟨cs, fz, h⟩ := h
  rcases Nat.lt_or_ge b w.heap.size with hlt | hge
  · exact hlt
  · rw [Array.getElem?_eq_none hge] at h; cases h
theorem TyAt.below {w w' : World} {b : Nat} {t : TypeId} (h : TyAt w b t) (hb : Below w.heap.size w w') : TyAt w' b t := by
  have := hb.block b h.lt
  obtain ⟨cs, fz, h⟩ := h
  exact ⟨cs, fz, this.trans h⟩
theorem TyAt.keep {w w' : World} {b : Nat} {t : TypeId} {base : Nat} {T : List TypeId} (h : TyAt w b t) (f : Fr base T w w') (ht : t ∉ T) : TyAt w' b t := by
  have hl := h.lt
  obtain ⟨cs, fz, h⟩ := h
  exact ⟨cs, fz, (f.block b hl (.inr ⟨cs, t, fz, h, ht⟩)).trans h⟩
theorem TyAt.alloc {w : World} {b : Nat} {t : TypeId} (h : TyAt w b t) (o : Obj) : TyAt (w.alloc o) b t := h.below (bel1 _ _)
theorem TyAt.drew {w : World} {b : Nat} {t : TypeId} (h : TyAt w b t) : TyAt w.drew b t := h
theorem TyAt.new (w : World) (cs : Array Value) (t : TypeId) (fz : Nat × Nat) : TyAt (w.alloc (.cells cs t fz)) w.heap.size t := ⟨cs, fz, heap_alloc_new w _⟩
theorem Fr.set {base : Nat} {T : List TypeId} {w0 w : World} (h : Fr base T w0 w) {a : Addr} {t : TypeId} (ht : TyAt w a.block t) (hT : t ∈ T) (hb : base ≤ a.block) (v : Value) : Fr base T w0 (w.setCell a v) := by
  refine h.trans ⟨rfl, rfl, rfl, by simp [World.setCell], fun k hk hc => Below.heap_setCell _ _ _ _ ?_⟩
  rintro rfl
  obtain ⟨cs, fz, ht⟩ := ht
  rcases hc with hc | ⟨cs', t', fz', hc, hn⟩
  · omega
  · rw [ht] at hc; cases hc; exact hn hT
theorem Fr.drew {base : Nat} {T : List TypeId} {w0 w : World} (h : Fr base T w0 w) : Fr base T w0 w.drew := ⟨h.os, h.tape, h.output, h.size, h.block⟩
theorem Fr.alloc {base : Nat} {T : List TypeId} {w0 w : World} (h : Fr base T w0 w) (o : Obj) : Fr base T w0 (w.alloc o) := h.trans (Fr.of_below (bel1 _ _))
theorem Fr.then_ {base : Nat} {T : List TypeId} {w0 w w' : World} (h : Fr base T w0 w) (k : Below w.heap.size w w') : Fr base T w0 w' := h.trans (Fr.of_below k)

theorem TyAt.newAt {w : World} {k : Nat} (cs : Array Value) (t : TypeId) (fz : Nat × Nat) (h : w.heap.size = k) : TyAt (w.alloc (.cells cs t fz)) k t := by subst h; exact TyAt.new _ _ _ _
theorem Fr.setAt {base : Nat} {T : List TypeId} {w0 w : World} (h : Fr base T w0 w) {b : Nat} {t : TypeId} (ht : TyAt w b t) (hT : t ∈ T) (hb : base ≤ b) (j : Nat) (v : Value) : Fr base T w0 (w.setCell ⟨b, j, none⟩ v) :=
  Fr.set h (a := ⟨b, j, none⟩) ht hT hb v
/-- the strings fit, the matchers are few -/
def MsOk (ms : List Mat) : Prop := ms.length ≤ 1000 ∧ ∀ x ∈ ms, x.1.size ≤ maxLen ∧ x.2.2.size ≤ maxLen
theorem Mats.form {w : World} {base : Nat} {v : Value} {l : List Mat} (h : Mats w base v l) : ∃ A c, v = .slice A l.length c := by
  obtain ⟨_, A, c, hv, _⟩ := h
  exact ⟨A, c, hv⟩

/-- a slice of matchers is returned -/
def RetMats (w : World) (base : Nat) (ms : List Mat) (e : Ending) (w' : World) : Prop := ∃ A n c, e = .returned (.slice A n c) ∧ Mats w' base (.slice A n c) ms ∧ Below w.heap.size w w'

theorem matInfo : (Tryd.prog.info? 84).map (fun i => (i.zero, i.size, i.bytes)) = some (some (.agg #[.string ⟨#[]⟩, .int .i64 0, .string ⟨#[]⟩]), 3, 40) := by kernel_rfl

theorem matCells_one (ms : List Mat) : ∀ u ∈ ms.flatMap matCells, u.oneCell' = true := by
  intro u hu
  obtain ⟨x, _, hx⟩ := List.mem_flatMap.1 hu
  simp [matCells] at hx
  rcases hx with rfl | rfl | rfl <;> rfl
theorem Seq.news {w : World} {base t size n c : Nat} {ad : Addr} {xs : List Value} (h : Seq w base t size (.slice (some ad) n c) n xs) : ∀ j u, xs[j]? = some u → w.cell? (ad.add j) = some u := by
  intro j u hu
  obtain ⟨h1, A, c', hv, _, _, h2⟩ := h
  cases hv
  rcases Nat.eq_zero_or_pos n with h0 | h0
  · subst h0
    have hn : xs = [] := List.eq_nil_of_length_eq_zero (by simpa using h1)
    rw [hn] at hu; simp at hu
  · obtain ⟨b, off, hA, _, hx⟩ := h2 h0
    cases hA
    have := hx j u hu
    unfold Addr.add
    split
    · next e => subst e; exact this
    · exact this

theorem mats_of_own {w1 : World} {B m base' : Nat} {v : Value} {ms : List Mat} (h : w1.ownsRow B 84 3 v m ([] ++ ms.flatMap matCells)) (hm : m = ms.length) :
    ∃ A n c, v = .slice A n c ∧ Mats w1 base' (.slice A n c) ms := by
  rw [List.nil_append] at h
  subst hm
  have hs : Seq w1 base' 84 3 v ms.length (ms.flatMap matCells) := Seq.of_own h
  obtain ⟨_, A, c, hv, _⟩ := id hs
  exact ⟨A, ms.length, c, hv, by rw [← hv]; exact hs⟩

theorem own_form {w : World} {B t size n : Nat} {v : Value} {xs : List Value} (h : w.ownsRow B t size v n xs) : ∃ A c, v = .slice A n c := by
  rcases h.2 with ⟨rfl, rfl⟩ | ⟨g, cap, cur, rfl, _⟩
  · exact ⟨_, _, rfl⟩
  · exact ⟨_, _, rfl⟩
theorem Fr.grown {base : Nat} {T : List TypeId} {w0 w w' : World} {row : Option Nat} {t : TypeId} (h : Fr base T w0 w) (hg : w.grownBy w' row) (hr : ∀ g, row = some g → base ≤ g ∧ TyAt w g t) (hT : t ∈ T) : Fr base T w0 w' := by
  refine h.trans ⟨hg.os, hg.tape, hg.output, hg.size, fun k hk hc => hg.block k hk ?_⟩
  intro e
  obtain ⟨hb, cs, fz, ht⟩ := hr k e.symm
  rcases hc with hc | ⟨cs', t', fz', hc, hn⟩
  · omega
  · rw [ht] at hc; cases hc; exact hn hT

theorem own_below {w w' : World} {B t size n : Nat} {v : Value} {xs : List Value} (h : w.ownsRow B t size v n xs) (hb : Below w.heap.size w w') : w'.ownsRow B t size v n xs :=
  h.kept (row := none) ⟨hb.os, hb.tape, hb.output, hb.size, fun i hi _ => hb.block i hi⟩ (by cases hv : v.ownBlock <;> simp)

theorem own_ty {w : World} {B t size n : Nat} {v : Value} {xs : List Value} (h : w.ownsRow B t size v n xs) : ∀ g, v.ownBlock = some g → B ≤ g ∧ TyAt w g t := by
  intro g hg
  rcases h.2 with ⟨rfl, _⟩ | ⟨g', cap, cur, rfl, hb, hh, _⟩
  · simp [Value.ownBlock] at hg
  · simp [Value.ownBlock] at hg; subst hg; exact ⟨hb, cur, _, hh⟩
/-- a row of the call's own has grown: blocks of other types are as they were -/
theorem grow_fr {W W' w9 : World} {base n t size : Nat} {v : Value} {xs : List Value} (hown : W.ownsRow base t size v n xs) (hb : Below W.heap.size W W') (hg : W'.grownBy w9 v.ownBlock) : Fr base [t] W w9 :=
  Fr.grown (t := t) (Fr.of_below hb) hg (fun g hg => (own_ty (own_below hown hb)) g hg) (by simp)

theorem own_fr {w w' : World} {B t size n base : Nat} {T : List TypeId} {v : Value} {xs : List Value} (h : w.ownsRow B t size v n xs) (f : Fr base T w w') (ht : t ∉ T) : w'.ownsRow B t size v n xs := by
  refine ⟨h.1, ?_⟩
  rcases h.2 with h2 | ⟨g, cap, cur, hv, hb, hh, r⟩
  · exact .inl h2
  · exact .inr ⟨g, cap, cur, hv, hb, (f.block g (TyAt.lt ⟨_, _, hh⟩) (.inr ⟨_, _, _, hh, ht⟩)).trans hh, r⟩

end
section
open Go.RowKit

def I64 (x : Int) : Prop := -9223372036854775808 ≤ x ∧ x ≤ 9223372036854775807
def Ints (w : World) (base : Nat) (v : Value) (l : List Int) : Prop := Seq w base 3 1 v l.length (l.map (Value.int .i64)) ∧ ∀ x ∈ l, I64 x
def Strs (w : World) (base : Nat) (v : Value) (l : List ByteArray) : Prop := Seq w base 9 1 v l.length (l.map Value.string)

theorem Ints.nil (w : World) (base : Nat) : Ints w base (.slice none 0 0) [] := ⟨Seq.nil _ _ _ _, fun x hx => by simp at hx⟩
theorem Ints.below {w w' : World} {base : Nat} {v : Value} {l : List Int} (h : Ints w base v l) (f : Below w.heap.size w w') : Ints w' base v l := ⟨h.1.below f, h.2⟩
theorem Ints.keep {w w' : World} {base : Nat} {T : List TypeId} {v : Value} {l : List Int} (h : Ints w base v l) (f : Fr base T w w') (ht : 3 ∉ T) : Ints w' base v l := ⟨h.1.keep f ht, h.2⟩
theorem Strs.below {w w' : World} {base : Nat} {v : Value} {l : List ByteArray} (h : Strs w base v l) (f : Below w.heap.size w w') : Strs w' base v l := Seq.below h f
theorem Seq.len {w : World} {base t size m n c : Nat} {A : Option Addr} {xs : List Value} (h : Seq w base t size (.slice A n c) m xs) : n = m ∧ n ≤ 9223372036854775807 := by
  obtain ⟨_, A', c', hv, h1, h2, _⟩ := h
  cases hv
  unfold maxLen at h2
  exact ⟨rfl, by omega⟩
theorem Seq.at1 {w : World} {base t n c : Nat} {A : Option Addr} {m : Nat} {xs : List Value} (h : Seq w base t 1 (.slice A n c) m xs) (k : Nat) (u : Value) (hk : xs[k]? = some u) : ∃ b off, A = some ⟨b, off, none⟩ ∧ b < w.heap.size ∧ w.cell? ⟨b, off + k, none⟩ = some u := by
  obtain ⟨h1, A', c', hv, _, _, h2⟩ := h
  cases hv
  have hlt : k < xs.length := (List.getElem?_eq_some_iff.1 hk).1
  obtain ⟨b, off, rfl, hf, hx⟩ := h2 (by omega)
  exact ⟨b, off, rfl, hf.1, hx k u hk⟩
/-- an argument that is a slice of integers -/
theorem Ints.of_row {w : World} {x : Addr} {len cap : Nat} {zs : List Int} (hl : len ≤ cap) (hm : cap ≤ maxLen) (hz : zs.length = cap) (hcell : ∀ i, i < zs.length → w.cell? (x.add i) = some (.int .i64 (zs.getD i 0))) (hwf : ∀ n ∈ zs, (Lit.int .i64 n).wf = true) :
    Ints w w.heap.size (.slice (some x) len cap) (zs.take len) := by
  have hl' : (zs.take len).length = len := by rw [List.length_take]; omega
  refine ⟨⟨by simp, some x, cap, by rw [hl'], by omega, hm, fun h0 => ?_⟩, fun y hy => ?_⟩
  · have h1 := hcell 0 (by omega)
    have hsp : x.spot = none := by
      cases hs : x.spot with
      | none => rfl
      | some q =>
        simp only [Addr.add, if_pos, World.cell?] at h1
        split at h1
        · simp [hs] at h1
        · cases h1
    obtain ⟨b, off, sp⟩ := x
    simp only at hsp
    subst hsp
    have hb : b < w.heap.size := World.block_lt_of_cell? w ⟨b, off, none⟩ (u := .int .i64 (zs.getD 0 0)) (by simpa [Addr.add] using h1)
    refine ⟨b, off, rfl, ⟨hb, .inl hb⟩, fun j u hu => ?_⟩
    rw [List.getElem?_map] at hu
    obtain ⟨y, hy, rfl⟩ := Option.map_eq_some_iff.1 hu
    obtain ⟨hjl, hjy⟩ := List.getElem?_eq_some_iff.1 hy
    have hj : j < zs.length := by rw [List.length_take] at hjl; omega
    have := hcell j hj
    have e : zs.getD j 0 = y := by rw [← hjy, List.getElem_take]; simp [List.getD_eq_getElem?_getD, hj]
    rw [e] at this
    unfold Addr.add at this
    split at this
    · next h => subst h; exact this
    · exact this
  · have := hwf y (List.mem_of_mem_take hy)
    simpa [I64, Lit.wf, IntKind.min, IntKind.max, IntKind.signed, IntKind.bits] using this

/-- 'Pick' -/
def pickZ (l : List Int) (i most : Int) : Int := if i < 0 ∨ (l.length : Int) ≤ i then 0 else around (l.getD i.toNat 0) most
theorem pick_bd (l : List Int) (i most : Int) (h : 1 ≤ most) : 0 ≤ pickZ l i most ∧ pickZ l i most < most := by
  unfold pickZ
  split
  · omega
  · exact around_bd _ _ h

set_option maxHeartbeats 400000 in
theorem pick_any (A : Option Addr) (n c base : Nat) (l : List Int) (i most : Int) (w : World) (h : Ints w base (.slice A n c) l) (h1 : 1 ≤ most) (h2 : most ≤ 9223372036854775807) :
    Calls Tryd.prog 31 #[.slice A n c, .int .i64 i, .int .i64 most] w fun e w' => e = .returned (.int .i64 (pickZ l i most)) ∧ w = w' := by
  obtain ⟨hn, hm⟩ := h.1.len
  by_cases h0 : i < 0
  · have E : Hid (pickZ l i most = 0) := if_pos (.inl h0)
    clear h hn
    go_enter Tryd.func31, Tryd.ntmps31
    go_wp2
    go_ret
    exact ⟨ret_int (by rw [E.out]), rfl⟩
  by_cases h3 : (n : Int) ≤ i
  · have E : Hid (pickZ l i most = 0) := if_pos (.inr (by omega))
    clear h hn
    go_enter Tryd.func31, Tryd.ntmps31
    go_wp2
    go_ret
    exact ⟨ret_int (by rw [E.out]), rfl⟩
  obtain ⟨k, rfl⟩ : ∃ k : Nat, i = (k : Int) := ⟨i.toNat, by omega⟩
  have hk : k < l.length := by omega
  have hk' : k < n := by omega
  have hx : l[k]? = some l[k] := List.getElem?_eq_getElem hk
  have E : Hid (pickZ l (k : Int) most = around l[k] most) := by
    unfold pickZ
    rw [Hid, if_neg (by omega)]
    simp [List.getD_eq_getElem?_getD, hx]
  obtain ⟨b, off, rfl, hb, hc⟩ := h.1.at1 k (.int .i64 l[k]) (by rw [List.getElem?_map, hx]; rfl)
  have hr := h.2 l[k] (List.getElem_mem hk)
  obtain ⟨hr1, hr2⟩ := hr
  generalize l[k] = z at *
  clear h hn hx
  go_enter Tryd.func31, Tryd.ntmps31
  go_wp2_with (go_at_call 21; refine (around_any _ _ _ hr1 hr2 h1 h2).mono ?_; rintro e w' ⟨rfl, rfl⟩)
  go_ret
  exact ⟨ret_int (by rw [E.out]), rfl⟩

theorem names_any (w : World) : Calls Tryd.prog 44 #[] w fun e w' => e = .returned (.slice (some ⟨w.heap.size, 0, none⟩) 6 6) ∧ w' = w.alloc (.cells #[.string ⟨#[97]⟩, .string ⟨#[97, 98]⟩, .string ⟨#[98]⟩, .string ⟨#[106, 111, 98]⟩, .string ⟨#[120, 95, 49]⟩, .string ⟨#[122, 111, 110, 101]⟩] 9) := by
  go_enter Tryd.func44, Tryd.ntmps44
  go_wp2
  go_ret
  exact ⟨rfl, rfl⟩
theorem values_any (w : World) : Calls Tryd.prog 45 #[] w fun e w' => e = .returned (.slice (some ⟨w.heap.size, 0, none⟩) 6 6) ∧ w' = w.alloc (.cells #[.string ⟨#[97]⟩, .string ⟨#[97, 98]⟩, .string ⟨#[98]⟩, .string ⟨#[120, 49]⟩, .string ⟨#[126, 33]⟩, .string ⟨#[48]⟩] 9) := by
  go_enter Tryd.func45, Tryd.ntmps45
  go_wp2
  go_ret
  exact ⟨rfl, rfl⟩
/-- a block of literal strings, as a slice -/
theorem Strs.new (w : World) (base : Nat) (l : List ByteArray) (cs : Array Value) (h : cs.toList = l.map Value.string) (hl : l.length ≤ 1000) : Strs (w.alloc (.cells cs 9)) base (.slice (some ⟨w.heap.size, 0, none⟩) l.length l.length) l := by
  refine ⟨by simp, _, _, rfl, Nat.le_refl _, by unfold maxLen; omega, fun _ => ⟨w.heap.size, 0, rfl, ⟨by simp, .inr ⟨_, _, heap_alloc_new w _⟩⟩, ?_⟩⟩
  intro j u hj
  rw [← h] at hj
  have := cell_of_row (w.alloc (.cells cs 9)) w.heap.size (0 + j) cs 9 (0, 0) (heap_alloc_new w _)
  rw [this, Nat.zero_add]
  simpa using hj
end
section
open Go.RowKit

def namesL : List ByteArray := [⟨#[97]⟩, ⟨#[97, 98]⟩, ⟨#[98]⟩, ⟨#[106, 111, 98]⟩, ⟨#[120, 95, 49]⟩, ⟨#[122, 111, 110, 101]⟩]
def valuesL : List ByteArray := [⟨#[97]⟩, ⟨#[97, 98]⟩, ⟨#[98]⟩, ⟨#[120, 49]⟩, ⟨#[126, 33]⟩, ⟨#[48]⟩]
def valuesL8 : List ByteArray := valuesL ++ [⟨#[]⟩, ⟨#[120]⟩]
theorem strInfo : (Tryd.prog.info? 9).map (fun i => (i.zero, i.size, i.bytes)) = some (some (.string ⟨#[]⟩), 1, 16) := by kernel_rfl
theorem labInfo : (Tryd.prog.info? 78).map (fun i => (i.zero, i.size, i.bytes)) = some (some (.agg #[.string ⟨#[]⟩, .string ⟨#[]⟩]), 2, 32) := by kernel_rfl

/-- a matcher made of the lists -/
def GoodMat (m : Mat) : Prop := m.1 ∈ namesL ∧ (0 ≤ m.2.1 ∧ m.2.1 < 3) ∧ m.2.2 ∈ valuesL8
theorem namesL_ok : ∀ x ∈ namesL, nameB x = true ∧ x.size ≤ 16 := by
  intro x hx
  simp [namesL] at hx
  rcases hx with rfl | rfl | rfl | rfl | rfl | rfl <;> exact ⟨by kernel_rfl, by decide⟩
theorem valuesL8_ok : ∀ x ∈ valuesL8, valueB x = true ∧ x.size ≤ 16 := by
  intro x hx
  simp [valuesL8, valuesL] at hx
  rcases hx with rfl | rfl | rfl | rfl | rfl | rfl | rfl | rfl <;> exact ⟨by kernel_rfl, by decide⟩
theorem GoodMat.valid {m : Mat} (h : GoodMat m) : vmatB m = true := by
  obtain ⟨h1, ⟨h2, h3⟩, h4⟩ := h
  have a := (namesL_ok _ h1).1
  have b := (valuesL8_ok _ h4).1
  simp [vmatB, a, b]; omega
theorem good_ok {ms : List Mat} (hl : ms.length ≤ 1000) (h : ∀ m ∈ ms, GoodMat m) : MsOk ms := by
  refine ⟨hl, fun x hx => ?_⟩
  have a := (namesL_ok _ (h x hx).1).2
  have b := (valuesL8_ok _ (h x hx).2.2).2
  unfold maxLen; omega
/-- matchers are returned: few and valid -/
def RetMs (w : World) (base : Nat) (e : Ending) (w' : World) : Prop := ∃ ms, RetMats w base ms e w' ∧ ms.length ≤ 3 ∧ ∀ m ∈ ms, GoodMat m

theorem Seq.of_base {w : World} {base base' t size n : Nat} {v : Value} {xs : List Value} (h : Seq w base t size v n xs) (hb : base ≤ base') : Seq w base' t size v n xs := by
  obtain ⟨h1, A, c, hv, hn, hc, h2⟩ := h
  refine ⟨h1, A, c, hv, hn, hc, fun h0 => ?_⟩
  obtain ⟨b, off, hA, hf, hx⟩ := h2 h0
  exact ⟨b, off, hA, ⟨hf.1, hf.2.imp (fun h => Nat.lt_of_lt_of_le h hb) id⟩, hx⟩

theorem own_newAt {w : World} {k base : Nat} (cs : Array Value) (t : TypeId) (n : Nat) (xs : List Value) (h : w.heap.size = k) (hb : base ≤ k) (hs : cs.size = n) (hx : cs.toList = xs) (hn : n ≤ 1000) : (w.alloc (.cells cs t)).ownsRow base t 1 (.slice (some ⟨k, 0, none⟩) n n) n xs := by
  subst h hx
  exact ⟨by simp [hs], .inr ⟨_, _, cs, rfl, hb, heap_alloc_new w _, Nat.le_refl _, by unfold maxLen; omega, by omega, by rw [Nat.mul_one, ← hs]; exact List.take_of_length_le (by simp)⟩⟩
theorem cells2At {w : World} {k : Nat} (h : w.heap.size = k) (t : TypeId) (v0 v1 : Value) : ∀ j u, [v0, v1][j]? = some u → (w.alloc (.cells #[v0, v1] t)).cell? ((⟨k, 0, none⟩ : Addr).add j) = some u := by
  subst h
  intro j u hj
  match j, hj with
  | 0, hj => simp at hj; subst hj; simp [Addr.add]
  | 1, hj => simp at hj; subst hj; simp [Addr.add]
  | j + 2, hj => simp at hj

def MsRel (w : World) (m : Int) (nv vv v i : Value) (wr : World) : Prop :=
  ∃ (k : Nat) (ms : List Mat), (k : Int) ≤ m ∧ i = .int .i64 k ∧ ms.length = k ∧ (∀ x ∈ ms, GoodMat x) ∧ wr.ownsRow w.heap.size 84 3 v k (ms.flatMap matCells) ∧ Strs wr w.heap.size nv namesL ∧ Strs wr w.heap.size vv valuesL8 ∧ Below w.heap.size w wr

/-- element i of a slice of strings -/
theorem Strs.pick {w : World} {base n c : Nat} {A : Option Addr} {l : List ByteArray} (h : Strs w base (.slice A n c) l) (i : Int) (h0 : 0 ≤ i) (h1 : i < l.length) : ∃ b off x, A = some ⟨b, off, none⟩ ∧ Fit w base 9 b ∧ x ∈ l ∧ w.cell? ⟨b, off + i.toNat, none⟩ = some (.string x) := by
  have hk : i.toNat < l.length := by omega
  obtain ⟨h1, A', c', hv, _, _, h2⟩ := h
  cases hv
  obtain ⟨b, off, rfl, hf, hx⟩ := h2 (by omega)
  exact ⟨b, off, l[i.toNat], rfl, hf, List.getElem_mem hk, hx i.toNat _ (by rw [List.getElem?_map, List.getElem?_eq_getElem hk]; rfl)⟩
theorem fr_below {base : Nat} {T : List TypeId} {w w' : World} (f : Fr base T w w') (h : base ≤ w.heap.size) : Below base w w' := ⟨f.os, f.tape, f.output, f.size, fun k hk => f.block k (by omega) (.inl hk)⟩
theorem fit_cell {base t : Nat} {T : List TypeId} {w w' : World} {b o : Nat} {u : Value} (h : Fit w base t b) (f : Fr base T w w') (ht : t ∉ T) (hc : w.cell? ⟨b, o, none⟩ = some u) : w'.cell? ⟨b, o, none⟩ = some u := (World.cell?_of_block (a := ⟨b, o, none⟩) (h.keep f ht).2).trans hc
theorem Strs.keep {w w' : World} {base : Nat} {T : List TypeId} {v : Value} {l : List ByteArray} (h : Strs w base v l) (f : Fr base T w w') (ht : 9 ∉ T) : Strs w' base v l := Seq.keep h f ht
theorem cells3 (w : World) (t : TypeId) (v0 v1 v2 : Value) : ∀ j u, [v0, v1, v2][j]? = some u → (w.alloc (.cells #[v0, v1, v2] t)).cell? ((⟨w.heap.size, 0, none⟩ : Addr).add j) = some u := by
  intro j u hj
  match j, hj with
  | 0, hj => simp at hj; subst hj; simp [Addr.add]
  | 1, hj => simp at hj; subst hj; simp [Addr.add]
  | 2, hj => simp at hj; subst hj; simp [Addr.add]
  | j + 3, hj => simp at hj
theorem mat_one (m : Mat) : ∀ u ∈ matCells m, u.oneCell' = true := by
  intro u hu
  simp [matCells] at hu
  rcases hu with rfl | rfl | rfl <;> rfl

set_option maxRecDepth 100000 in
set_option maxHeartbeats 2000000 in
theorem matchers_any (A : Option Addr) (n c base : Nat) (l : List Int) (w : World) (h : Ints w base (.slice A n c) l) (hbase : base ≤ w.heap.size) :
    Calls Tryd.prog 77 #[.slice A n c] w (RetMs w base) := by
  obtain ⟨i0, hi, hz0, hz1, hz2⟩ := info_parts strInfo
  obtain ⟨j0, hj, hy0, hy1, hy2⟩ := info_parts matInfo
  obtain ⟨hp1, hp2⟩ := pick_bd l 0 4 (by omega)
  have HI := Lib.hid h
  have HJ := Lib.hid (And.intro hj (And.intro hy0 (And.intro hy1 hy2)))
  clear h hj hy0 hy1 hy2
  go_enter Tryd.func77, Tryd.ntmps77
  go_wp2_with (first
    | (go_at_call 44; refine (names_any _).mono ?_; rintro e w1 ⟨rfl, rfl⟩)
    | (go_at_call 45; refine (values_any _).mono ?_; rintro e w2 ⟨rfl, rfl⟩)
    | (at_builtin; refine wpList_append_lies _ rfl _ _ 35 rfl w.heap.size 9 i0 _ 1 16 Tryd.underlying35 hi hz0 hz1 hz2 rfl (by decide) (.slice (some ⟨w.heap.size + 1, 0, none⟩) 6 6) 6 (valuesL.map Value.string) rfl (by exact (own_newAt (w := w.alloc _) _ _ 6 _ (by simp) (by omega) rfl rfl (by omega)).alloc _) ⟨w.heap.size + 1 + 1, 0, none⟩ 2 2 [.string ⟨#[]⟩, .string ⟨#[120]⟩] rfl rfl (cells2At (by simp) _ _ _) (by intro u hu; simp at hu; rcases hu with rfl | rfl <;> rfl) (by decide) (by unfold maxLen; omega) (by omega) (by simp; omega) _ rfl ?_; intro g8 cap8 w4 hown4 hg4 hat4 hlt4))
  have HS : Hid (Strs w4 w.heap.size (.slice (some ⟨w.heap.size, 0, none⟩) 6 6) namesL ∧ Strs w4 w.heap.size (.slice (some ⟨g8, 0, none⟩) (6 + 2) cap8) valuesL8 ∧ Below w.heap.size w w4) := by
    have hb3 : Below w.heap.size w (((w.alloc (.cells #[.string ⟨#[97]⟩, .string ⟨#[97, 98]⟩, .string ⟨#[98]⟩, .string ⟨#[106, 111, 98]⟩, .string ⟨#[120, 95, 49]⟩, .string ⟨#[122, 111, 110, 101]⟩] 9)).alloc (.cells #[.string ⟨#[97]⟩, .string ⟨#[97, 98]⟩, .string ⟨#[98]⟩, .string ⟨#[120, 49]⟩, .string ⟨#[126, 33]⟩, .string ⟨#[48]⟩] 9)).alloc (.cells #[.string ⟨#[]⟩, .string ⟨#[120]⟩] 9)) := ((bel1 _ _).alloc (by simp) _).alloc (by simp; omega) _
    have hn := (own_newAt (w := w) (base := w.heap.size) #[.string ⟨#[97]⟩, .string ⟨#[97, 98]⟩, .string ⟨#[98]⟩, .string ⟨#[106, 111, 98]⟩, .string ⟨#[120, 95, 49]⟩, .string ⟨#[122, 111, 110, 101]⟩] 9 6 (namesL.map Value.string) rfl (Nat.le_refl _) rfl rfl (by omega))
    refine ⟨Seq.of_own (((hn.alloc _).alloc _).kept hg4 (.inr ?_)), Seq.of_own hown4, hb3.grown hg4 (by simp; omega) (fun k hk => by simp [Value.ownBlock] at hk; omega)⟩
    simp [Value.ownBlock]
  clear hown4 hg4 hat4
  go_loopw [5, 6] (fun v i wr => MsRel w (pickZ l 0 4) (.slice (some ⟨w.heap.size, 0, none⟩) 6 6) (.slice (some ⟨g8, 0, none⟩) (6 + 2) cap8) v i wr) (fun _ i _ => (pickZ l 0 4 - intOf i).toNat)
  case atStart => exact ⟨0, [], by omega, rfl, rfl, fun x hx => by simp at hx, World.ownsRow_nil _ _ _ _, HS.out.1, HS.out.2.1, HS.out.2.2⟩
  case round =>
    obtain ⟨k, ms, hk, rfl, hlen, hgood, hown, hsn, hsv, hbw⟩ := hrel
    have hsz := hbw.size
    clear HS
    have HIr := Lib.hid (HI.out.below hbw)
    by_cases hlt : (k : Int) < pickZ l 0 4
    · obtain ⟨q1, q2⟩ := pick_bd l (3 * (k : Int) + 1) 6 (by omega)
      obtain ⟨q3, q4⟩ := pick_bd l (3 * (k : Int) + 2) 3 (by omega)
      obtain ⟨q5, q6⟩ := pick_bd l (3 * (k : Int) + 3) 8 (by omega)
      obtain ⟨b1, off1, x1, hA1, hb1, hx1, hc1⟩ := hsn.pick _ q1 (by simp [namesL]; omega)
      obtain ⟨b2, off2, x2, hA2, hb2, hx2, hc2⟩ := hsv.pick _ q5 (by simp [valuesL8, valuesL]; omega)
      simp only [Option.some.injEq, Addr.mk.injEq, and_true] at hA1 hA2
      obtain ⟨rfl, rfl⟩ := hA1
      obtain ⟨rfl, rfl⟩ := hA2
      simp only [Nat.zero_add] at hc1 hc2
      have HFT := Lib.hid (And.intro hb1 hb2)
      clear hb1 hb2
      have HG : Hid (GoodMat (x1, pickZ l (3 * (k : Int) + 2) 3, x2)) := ⟨hx1, ⟨q3, q4⟩, hx2⟩
      have HR := Lib.hid (And.intro hlen (And.intro hgood (And.intro hown (And.intro hsn (And.intro hsv hbw)))))
      clear hlen hgood hown hsn hsv hbw hx1 hx2
      have t1 : IntKind.i64.wrap (3 * (k : Int)) = 3 * (k : Int) := by rw [IntWalk.i64_in _ (by omega)]
      have t2 : IntKind.i64.wrap (3 * (k : Int) + 1) = 3 * (k : Int) + 1 := by rw [IntWalk.i64_in _ (by omega)]
      have t3 : IntKind.i64.wrap (3 * (k : Int) + 2) = 3 * (k : Int) + 2 := by rw [IntWalk.i64_in _ (by omega)]
      have t4 : IntKind.i64.wrap (3 * (k : Int) + 3) = 3 * (k : Int) + 3 := by rw [IntWalk.i64_in _ (by omega)]
      go_wp2_with (go_at_call 31; refine (pick_any _ _ _ base l _ _ _ HIr.out (by omega) (by omega)).mono ?_; rintro e w' ⟨rfl, rfl⟩)
      go_region_held3 (fun w' => w'.cell? ⟨w.heap.size, (pickZ l (3 * (k : Int) + 1) 6).toNat, none⟩ = some (.string x1) ∧ w'.cell? ⟨g8, (pickZ l (3 * (k : Int) + 3) 8).toNat, none⟩ = some (.string x2)) (first | go_keep | exact HK9.out)
        (first
          | (refine step_append_lies _ rfl _ _ 34 rfl w.heap.size 84 j0 _ 3 40 Tryd.underlying34 HJ.out.1 HJ.out.2.1 HJ.out.2.2.1 HJ.out.2.2.2 rfl (by decide) u5 k (ms.flatMap matCells) rfl (by exact (HR.out.2.2.1).alloc _) ⟨wr.heap.size, 0, none⟩ 1 1 (matCells (x1, pickZ l (3 * (k : Int) + 2) 3, x2)) rfl rfl (cells3 _ _ _ _ _) (mat_one _) (by decide) (by unfold maxLen; omega) (by omega) (by simp; omega) _ rfl ?_
             intro g cap w9 hown9 hg9 hat9 hlt9
             have HF9 : Hid (Fr w.heap.size [84] wr w9) := grow_fr HR.out.2.2.1 (by first | exact bel1 _ _ | exact (bel1 _ _).drew) hg9
             have HK9 : Hid (w9.cell? ⟨w.heap.size, (pickZ l (3 * (k : Int) + 1) 6).toNat, none⟩ = some (.string x1) ∧ w9.cell? ⟨g8, (pickZ l (3 * (k : Int) + 3) 8).toNat, none⟩ = some (.string x2)) := ⟨fit_cell HFT.out.1 HF9.out (by decide) hc1, fit_cell HFT.out.2 HF9.out (by decide) hc2⟩
             have HO9 := Lib.hid hown9
             clear hown9 hg9 hat9)
          | (go_at_call 31; refine (pick_any _ _ _ base l _ _ _ (by exact HIr.out) (by omega) (by omega)).mono ?_; rintro e w' ⟨rfl, rfl⟩))
      have HFIN : Hid (w9.ownsRow w.heap.size 84 3 (.slice (some ⟨g, 0, none⟩) (k + 1) cap) (k + 1) ((ms ++ [(x1, pickZ l (3 * (k : Int) + 2) 3, x2)]).flatMap matCells)) := by rw [Hid, List.flatMap_append]; simpa using HO9.out
      clear t1 t2 t3 t4 HO9
      go_wp2
      go_roundw
      case rel =>
        refine ⟨k + 1, ms ++ [(x1, pickZ l (3 * (k : Int) + 2) 3, x2)], by omega, by go_num, by simp [HR.out.1], fun x hx => ?_, HFIN.out, HR.out.2.2.2.1.keep HF9.out (by decide), HR.out.2.2.2.2.1.keep HF9.out (by decide), HR.out.2.2.2.2.2.trans (fr_below HF9.out hsz)⟩
        rcases List.mem_append.1 hx with hx | hx
        · exact HR.out.2.1 x hx
        · simp at hx; subst hx; exact HG.out
      case measure => simp [intOf]; omega
    · obtain ⟨A2, c2, hv2⟩ := own_form hown
      have HV := Lib.hid hv2
      clear hv2
      go_wp2_with (go_at_call 31; refine (pick_any _ _ _ base l _ _ _ HIr.out (by omega) (by omega)).mono ?_; rintro e w' ⟨rfl, rfl⟩)
      go_ret
      have hs : Mats wr base (.slice A2 k c2) ms := by
        have := Seq.of_own (base' := base) hown
        rw [HV.out] at this
        unfold Mats; rw [hlen]; exact this
      exact ⟨ms, ⟨A2, k, c2, congrArg Ending.returned HV.out, hs, hbw⟩, by omega, hgood⟩
end
section
open Go.RowKit

def GoodLab (x : Lab) : Prop := x.1 ∈ namesL ∧ x.2 ∈ valuesL
/-- labels are returned -/
def RetLs (w : World) (base : Nat) (e : Ending) (w' : World) : Prop := ∃ ls A n c, e = .returned (.slice A n c) ∧ Labs w' base (.slice A n c) ls ∧ Below w.heap.size w w' ∧ ls.length ≤ 6 ∧ ∀ x ∈ ls, GoodLab x

def LsRel (w : World) (nv vv z v i : Value) (wr : World) : Prop :=
  ∃ (k : Nat) (ls : List Lab) (q : Int), k ≤ 6 ∧ i = .int .i64 k ∧ z = .int .i64 q ∧ 0 ≤ q ∧ q < 64 ∧ ls.length ≤ k ∧ (∀ x ∈ ls, GoodLab x) ∧ wr.ownsRow w.heap.size 78 2 v ls.length (ls.flatMap labCells) ∧ Strs wr w.heap.size nv namesL ∧ Strs wr w.heap.size vv valuesL ∧ Below w.heap.size w wr
theorem lab_one (m : Lab) : ∀ u ∈ labCells m, u.oneCell' = true := by
  intro u hu
  simp [labCells] at hu
  rcases hu with rfl | rfl <;> rfl

set_option maxRecDepth 100000 in
set_option maxHeartbeats 2000000 in
theorem set_any (A : Option Addr) (n c base : Nat) (l : List Int) (w : World) (h : Ints w base (.slice A n c) l) (hbase : base ≤ w.heap.size) :
    Calls Tryd.prog 32 #[.slice A n c] w (RetLs w base) := by
  obtain ⟨j0, hj, hy0, hy1, hy2⟩ := info_parts labInfo
  obtain ⟨hp1, hp2⟩ := pick_bd l 0 64 (by omega)
  have HI := Lib.hid h
  have HJ := Lib.hid (And.intro hj (And.intro hy0 (And.intro hy1 hy2)))
  clear h hj hy0 hy1 hy2
  have HS : Hid (Strs ((w.alloc (.cells #[.string ⟨#[97]⟩, .string ⟨#[97, 98]⟩, .string ⟨#[98]⟩, .string ⟨#[106, 111, 98]⟩, .string ⟨#[120, 95, 49]⟩, .string ⟨#[122, 111, 110, 101]⟩] 9)).alloc (.cells #[.string ⟨#[97]⟩, .string ⟨#[97, 98]⟩, .string ⟨#[98]⟩, .string ⟨#[120, 49]⟩, .string ⟨#[126, 33]⟩, .string ⟨#[48]⟩] 9)) w.heap.size (.slice (some ⟨w.heap.size, 0, none⟩) 6 6) namesL ∧ Strs ((w.alloc (.cells #[.string ⟨#[97]⟩, .string ⟨#[97, 98]⟩, .string ⟨#[98]⟩, .string ⟨#[106, 111, 98]⟩, .string ⟨#[120, 95, 49]⟩, .string ⟨#[122, 111, 110, 101]⟩] 9)).alloc (.cells #[.string ⟨#[97]⟩, .string ⟨#[97, 98]⟩, .string ⟨#[98]⟩, .string ⟨#[120, 49]⟩, .string ⟨#[126, 33]⟩, .string ⟨#[48]⟩] 9)) w.heap.size (.slice (some ⟨w.heap.size + 1, 0, none⟩) 6 6) valuesL) := by
    refine ⟨(Strs.new w _ namesL _ rfl (by decide)).below (bel1 _ _), ?_⟩
    have := Strs.new (w.alloc (.cells #[.string ⟨#[97]⟩, .string ⟨#[97, 98]⟩, .string ⟨#[98]⟩, .string ⟨#[106, 111, 98]⟩, .string ⟨#[120, 95, 49]⟩, .string ⟨#[122, 111, 110, 101]⟩] 9)) w.heap.size valuesL #[.string ⟨#[97]⟩, .string ⟨#[97, 98]⟩, .string ⟨#[98]⟩, .string ⟨#[120, 49]⟩, .string ⟨#[126, 33]⟩, .string ⟨#[48]⟩] rfl (by decide)
    rw [show (w.alloc (.cells #[.string ⟨#[97]⟩, .string ⟨#[97, 98]⟩, .string ⟨#[98]⟩, .string ⟨#[106, 111, 98]⟩, .string ⟨#[120, 95, 49]⟩, .string ⟨#[122, 111, 110, 101]⟩] 9)).heap.size = w.heap.size + 1 by simp] at this
    exact this
  go_enter Tryd.func32, Tryd.ntmps32
  go_wp2_with (first
    | (go_at_call 44; refine (names_any _).mono ?_; rintro e w1 ⟨rfl, rfl⟩)
    | (go_at_call 45; refine (values_any _).mono ?_; rintro e w2 ⟨rfl, rfl⟩)
    | (go_at_call 31; refine (pick_any _ _ _ base l _ _ _ (by exact HI.out.below (bel2 _ _ _)) (by omega) (by omega)).mono ?_; rintro e w' ⟨rfl, rfl⟩))
  go_loopw [5, 6, 7] (fun z v i wr => LsRel w (.slice (some ⟨w.heap.size, 0, none⟩) 6 6) (.slice (some ⟨w.heap.size + 1, 0, none⟩) 6 6) z v i wr) (fun _ _ i _ => 6 - (intOf i).toNat)
  case atStart => exact ⟨0, [], _, by omega, rfl, rfl, hp1, hp2, by simp, fun x hx => by simp at hx, World.ownsRow_nil _ _ _ _, HS.out.1, HS.out.2, bel2 _ _ _⟩
  case round =>
    obtain ⟨k, ls, q, hk, rfl, rfl, hq1, hq2, hlen, hgood, hown, hsn, hsv, hbw⟩ := hrel
    have hsz := hbw.size
    clear HS
    have HIr := Lib.hid (HI.out.below hbw)
    by_cases hlt : k < 6
    · by_cases hodd : (q % 2 == 1) = true
      · obtain ⟨q5, q6⟩ := pick_bd l ((k : Int) + 1) 6 (by omega)
        obtain ⟨b1, off1, x1, hA1, hb1, hx1, hc1⟩ := hsn.pick (k : Int) (by omega) (by simp [namesL]; omega)
        obtain ⟨b2, off2, x2, hA2, hb2, hx2, hc2⟩ := hsv.pick _ q5 (by simp [valuesL]; omega)
        simp only [Option.some.injEq, Addr.mk.injEq, and_true] at hA1 hA2
        obtain ⟨rfl, rfl⟩ := hA1
        obtain ⟨rfl, rfl⟩ := hA2
        simp only [Nat.zero_add, Int.toNat_natCast] at hc1 hc2
        have HG : Hid (GoodLab (x1, x2)) := ⟨hx1, hx2⟩
        have HR := Lib.hid (And.intro hgood (And.intro hown (And.intro hsn (And.intro hsv hbw))))
        have HFT := Lib.hid (And.intro hb1 hb2)
        clear hgood hown hsn hsv hbw hx1 hx2 hb1 hb2
        have t2 : IntKind.i64.wrap ((k : Int) + 1) = (k : Int) + 1 := by rw [IntWalk.i64_in _ (by omega)]
        have t5 : (k : Int) < 6 := by omega
        have t6 : ((k : Int)).toNat = k := by omega
        go_wp2
        go_region_held3 (fun w' => w'.cell? ⟨w.heap.size, k, none⟩ = some (.string x1) ∧ w'.cell? ⟨w.heap.size + 1, (pickZ l ((k : Int) + 1) 6).toNat, none⟩ = some (.string x2)) (first | go_keep | exact HK9.out)
          (first
            | (refine step_append_lies _ rfl _ _ 44 rfl w.heap.size 78 j0 _ 2 32 Tryd.underlying44 HJ.out.1 HJ.out.2.1 HJ.out.2.2.1 HJ.out.2.2.2 rfl (by decide) u6 ls.length (ls.flatMap labCells) rfl (by exact (HR.out.2.1).alloc _) ⟨wr.heap.size, 0, none⟩ 1 1 (labCells (x1, x2)) rfl rfl (cells2At rfl _ _ _) (lab_one _) (by decide) (by unfold maxLen; omega) (by omega) (by simp; omega) _ rfl ?_
               intro g cap w9 hown9 hg9 hat9 hlt9
               have HF9 : Hid (Fr w.heap.size [78] wr w9) := grow_fr HR.out.2.1 (by first | exact bel1 _ _ | exact (bel1 _ _).drew) hg9
               have HK9 : Hid (w9.cell? ⟨w.heap.size, k, none⟩ = some (.string x1) ∧ w9.cell? ⟨w.heap.size + 1, (pickZ l ((k : Int) + 1) 6).toNat, none⟩ = some (.string x2)) := ⟨fit_cell HFT.out.1 HF9.out (by decide) hc1, fit_cell HFT.out.2 HF9.out (by decide) hc2⟩
               have HO9 := Lib.hid hown9
               clear hown9 hg9 hat9)
            | (go_at_call 31; refine (pick_any _ _ _ base l _ _ _ (by exact HIr.out) (by omega) (by omega)).mono ?_; rintro e w' ⟨rfl, rfl⟩))
        have HFIN : Hid (w9.ownsRow w.heap.size 78 2 (.slice (some ⟨g, 0, none⟩) (ls.length + 1) cap) (ls ++ [(x1, x2)]).length ((ls ++ [(x1, x2)]).flatMap labCells)) := by rw [Hid, List.flatMap_append]; simpa using HO9.out
        clear t2 t6 HO9
        go_wp2
        go_roundw
        case rel =>
          refine ⟨k + 1, ls ++ [(x1, x2)], _, by omega, by go_num, rfl, by omega, by omega, by simp; omega, fun x hx => ?_, HFIN.out, HR.out.2.2.1.keep HF9.out (by decide), HR.out.2.2.2.1.keep HF9.out (by decide), HR.out.2.2.2.2.trans (fr_below HF9.out hsz)⟩
          rcases List.mem_append.1 hx with hx | hx
          · exact HR.out.1 x hx
          · simp at hx; subst hx; exact HG.out
        case measure => simp [intOf]; omega
      · have hodd' : (q % 2 == 1) = false := by simpa using hodd
        clear hodd
        have HR := Lib.hid (And.intro hgood (And.intro hown (And.intro hsn (And.intro hsv hbw))))
        clear hgood hown hsn hsv hbw
        go_wp2
        go_roundw
        case rel => exact ⟨k + 1, ls, _, by omega, by go_num, rfl, by omega, by omega, by omega, HR.out.1, HR.out.2.1, HR.out.2.2.1, HR.out.2.2.2.1, HR.out.2.2.2.2⟩
        case measure => simp [intOf]; omega
    · obtain ⟨A2, c2, hv2⟩ := own_form hown
      have HV := Lib.hid hv2
      clear hv2
      go_wp2
      go_ret
      have hs : Labs wr base (.slice A2 ls.length c2) ls := by
        have := Seq.of_own (base' := base) hown
        rw [HV.out] at this
        exact this
      exact ⟨ls, A2, ls.length, c2, congrArg Ending.returned HV.out, hs, hbw, by omega, hgood⟩
end
section
open Go.RowKit

abbrev reqC : Array Value := #[.int .i64 1, .int .i64 6, .int .i64 5, .int .i64 0, .int .i64 0, .int .i64 0, .int .i64 0, .string ⟨#[114, 101, 113]⟩, .slice none 0 0, .slice none 0 0, .slice none 0 0]
abbrev reqV : Value := .agg reqC
def RetB (v : Value) (w : World) (e : Ending) (w' : World) : Prop := e = .returned v ∧ Below w.heap.size w w'
set_option maxHeartbeats 1000000 in
theorem shaped_req (w : World) : Calls Tryd.prog 67 #[reqV] w (RetB (.bool true) w) := by
  go_enter Tryd.func67, Tryd.ntmps67
  go_wp2_with fail
  go_ret
  exact ⟨rfl, bel1 _ _⟩
set_option maxHeartbeats 1000000 in
theorem ranged_req (w : World) : Calls Tryd.prog 69 #[reqV] w (RetB (.bool true) w) := by
  go_enter Tryd.func69, Tryd.ntmps69
  go_wp2_with fail
  go_ret
  exact ⟨rfl, bel1 _ _⟩
set_option maxHeartbeats 1000000 in
theorem count_req (w : World) (g : Nat) (hg : Blk w g 3 #[.int .i64 200]) : Calls Tryd.prog 66 #[reqV, .int .i64 1, .pointer (some ⟨g, 0, none⟩)] w fun e w' => e = .returned (.tuple #[]) ∧ Blk w' g 3 #[.int .i64 199] ∧ w.heap.size ≤ w'.heap.size ∧ Below g w w' := by
  have HG := Box.mk hg
  have c0 := hg.c1
  have cf := hg.frozen
  have gz := hg.lt
  have gn : ¬ g = w.heap.size := by omega
  have gm : ¬ w.heap.size = g := by omega
  clear hg
  go_enter Tryd.func66, Tryd.ntmps66
  go_wp2_with fail
  go_loopw [6] (fun v wr => v = .int .i64 0 ∧ Blk wr g 3 #[.int .i64 199] ∧ Blk wr w.heap.size 38 reqC ∧ Below g w wr) (fun _ _ => 0)
  case atStart => exact ⟨rfl, Blk.alloc (by simpa using HG.out.set 0 (.int .i64 199)) _, Blk.newAt _ _ (by simp [World.setCell]), ((Below.refl g w).setCell (p := ⟨g, 0, none⟩) (Nat.le_refl _) _).alloc (by simp [World.setCell]; omega) _⟩
  case round =>
    obtain ⟨rfl, h1, h2, h3⟩ := hrel
    have H1 := Box.mk h1; have H3 := Box.mk h3
    have c1 := h1.c1
    have c2 : wr.cell? ⟨w.heap.size, 10, none⟩ = some (.slice none 0 0) := by unfold Blk at h2; simp [World.cell?, h2]
    clear h1 h2 h3
    go_wp2_with fail
    go_end0
    exact ⟨rfl, H1.out, H3.out.size, H3.out⟩
set_option maxHeartbeats 1000000 in
theorem fits_req (w : World) : Calls Tryd.prog 49 #[reqV] w (RetB (.bool true) w) := by
  go_enter Tryd.func49, Tryd.ntmps49
  go_wp2_with fail
  refine (count_req _ (w.heap.size + 1) (Blk.newAt _ _ (by simp))).mono ?_
  rintro e w1 ⟨rfl, h1, h2, h3⟩
  have HB : Box (Below w.heap.size w w1) := ⟨(bel2 _ _ _).trans (h3.mono (by omega))⟩
  have c1 := h1.c1
  clear h1 h2 h3
  go_wp2_with fail
  go_ret
  exact ⟨rfl, HB.out⟩
theorem name_req : nameB ⟨#[114, 101, 113]⟩ = true := by decide +kernel
/-- what the program's own variables hold -/
structure WordsW (w : World) : Prop where
  groups : ∀ k : Nat, k < 5 → ∃ s : ByteArray, w.cell? ⟨1, k, none⟩ = some (.string s) ∧ (s.toList == [114, 101, 113]) = false
  units : w.cell? ⟨0, 0, none⟩ = some (.string ⟨#[105, 116, 101, 109]⟩) ∧ w.cell? ⟨0, 1, none⟩ = some (.string ⟨#[98, 121, 116, 101]⟩) ∧ w.cell? ⟨0, 2, none⟩ = some (.string ⟨#[116, 105, 99, 107]⟩)
  low : 1 < w.heap.size ∧ 0 < w.heap.size
end
end Go.Proofs.YtgomgoacponbkaaDoor
