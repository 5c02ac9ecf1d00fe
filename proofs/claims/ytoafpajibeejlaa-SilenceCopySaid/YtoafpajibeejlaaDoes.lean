/- does: one operation on a book and on the reference's book. -/
import Derived.Test.YtoafpajibeejlaaLives
set_option linter.unusedVariables false
set_option linter.unusedSimpArgs false
namespace Go.Proofs.Ytoafpajibeejlaa
open Go.RowKit

theorem ropen_eq (p base : Nat) (l : List (Sil × Value)) (s : Sil) (A : Option Addr) (n c : Nat) (tick : Int) (w : World) (sl : List Sil) (r1 r2 : Int) (sl' : List Sil) (h : RBookAt w base p l) (hbase : base ≤ w.heap.size) (hm : Mats w base (.slice A n c) s.ms) (hs : SilFit s) (hl : l.length ≤ 10000) (he : l.map Prod.fst = sl) (hM : openM sl s tick = ((r1, r2), sl')) :
    Calls Try.prog 33 #[.pointer (some ⟨p, 0, none⟩), .agg #[.int .i64 s.id, .slice A n c, .string s.ow, .string s.se, .int .i64 s.cl, .int .i64 s.fr, .int .i64 s.un, .int .i64 s.cp, .int .i64 s.hd], .int .i64 tick] w (RRetBook w base p (.tuple #[.int .i64 r1, .int .i64 r2]) sl') := by
  have := ropenb_any p base l s A n c tick w h hbase hm hs hl
  rw [he, hM] at this
  exact this
theorem rhide_eq (p base : Nat) (l : List (Sil × Value)) (kd ve st sn : Int) (ru to_ : ByteArray) (A' : Option Addr) (n' c' : Nat) (ls : List Lab) (cls tick : Int) (w : World) (sl : List Sil) (r1 : Int) (r2 : Bool) (sl' : List Sil) (h : RBookAt w base p l) (hbase : base ≤ w.heap.size) (hl : l.length ≤ 10000) (hla : Labs w base (.slice A' n' c') ls) (hfit : ∀ s ∈ sl, CapFit s) (he : l.map Prod.fst = sl) (hM : hideM sl ls cls tick = ((r1, r2), sl')) :
    Calls Try.prog 47 #[.pointer (some ⟨p, 0, none⟩), .agg #[.int .i64 kd, .string ru, .int .i64 ve, .slice A' n' c', .int .i64 st, .int .i64 sn, .string to_], .int .i64 cls, .int .i64 tick] w (RRetBook w base p (.tuple #[.int .i64 r1, .bool r2]) sl') := by
  have := rhide_any p base l kd ve st sn ru to_ A' n' c' ls cls tick w h hbase hl hla (by rw [he]; exact hfit)
  rw [he, hM] at this
  exact this
theorem rextend_eq (p base : Nat) (l : List (Sil × Value)) (id tick til : Int) (pe : ByteArray) (w : World) (sl : List Sil) (r : Int) (sl' : List Sil) (h : RBookAt w base p l) (hl : l.length ≤ 10000) (h1 : -9223372036854775808 ≤ id)
    (ht : 0 ≤ tick) (ht2 : tick ≤ 4611686018427387904) (hu1 : -4611686018427387904 ≤ til) (hu2 : til ≤ 4611686018427387904) (he : l.map Prod.fst = sl) (hM : extendM sl id pe tick til = (r, sl')) :
    Calls Try.prog 45 #[.pointer (some ⟨p, 0, none⟩), .int .i64 id, .string pe, .int .i64 tick, .int .i64 til] w (RRetBook w base p (.int .i64 r) sl') := by
  have := rextend_any p base l id tick til pe w h hl h1 ht ht2 hu1 hu2
  rw [he, hM] at this
  exact this
theorem end_eq (p base : Nat) (l : List (Sil × Value)) (id tick : Int) (pe : ByteArray) (w : World) (sl : List Sil) (r : Int) (sl' : List Sil) (h : BookAt w base p l) (hl : l.length ≤ 10000) (h1 : -9223372036854775808 ≤ id)
    (he : l.map Prod.fst = sl) (hM : endM sl id pe tick = (r, sl')) :
    Calls Try.prog 28 #[.pointer (some ⟨p, 0, none⟩), .int .i64 id, .string pe, .int .i64 tick] w (RetBook w base p (.int .i64 r) sl') := by
  have := end_any p base l id tick pe w h hl h1
  rw [he, hM] at this
  exact this
theorem rend_eq (p base : Nat) (l : List (Sil × Value)) (id tick : Int) (pe : ByteArray) (w : World) (sl : List Sil) (r : Int) (sl' : List Sil) (h : RBookAt w base p l) (hl : l.length ≤ 10000) (h1 : -9223372036854775808 ≤ id)
    (he : l.map Prod.fst = sl) (hM : endM sl id pe tick = (r, sl')) :
    Calls Try.prog 46 #[.pointer (some ⟨p, 0, none⟩), .int .i64 id, .string pe, .int .i64 tick] w (RRetBook w base p (.int .i64 r) sl') := by
  have := rend_any p base l id tick pe w h hl h1
  rw [he, hM] at this
  exact this

theorem BookAt.keep {w w' : World} {base p : Nat} {l : List (Sil × Value)} {T : List TypeId} (h : BookAt w base p l) (f : Fr base T w w') (h1 : 77 ∉ T) (h2 : 82 ∉ T) (h3 : 27 ∉ T) : BookAt w' base p l := by
  obtain ⟨hb, sv, hh, hown, hok⟩ := h
  exact ⟨hb, sv, Blk.keep hh f h1, own_fr hown f h2, hok.keep f h3⟩
theorem RBookAt.keep {w w' : World} {base p : Nat} {l : List (Sil × Value)} {T : List TypeId} (h : RBookAt w base p l) (f : Fr base T w w') (h1 : 60 ∉ T) (h2 : 24 ∉ T) (h3 : 27 ∉ T) : RBookAt w' base p l := by
  obtain ⟨hb, sv, hh, hown, hok⟩ := h
  exact ⟨hb, sv, Blk.keep hh f h1, own_fr hown f h2, hok.keep f h3⟩

/-- two books that hold the same silences -/
def Two (w : World) (base p q : Nat) (sl : List Sil) : Prop := ∃ l l', BookAt w base p l ∧ RBookAt w base q l' ∧ l.map Prod.fst = sl ∧ l'.map Prod.fst = sl
def TT : List TypeId := [77, 82, 60, 24]
/-- an operation on both: true; both hold the same again -/
def RetTwo (w : World) (base p q : Nat) (sl : List Sil) (e : Ending) (w' : World) : Prop := e = .returned (.bool true) ∧ Two w' base p q sl ∧ Fr base TT w w'

theorem two_next {w w1 w2 W : World} {base p q : Nat} {l' : List (Sil × Value)} {sl sl' : List Sil} {v v' : Value} {e e' : Ending} (hW : Below w.heap.size w W) (hr : RBookAt W base q l') (he : l'.map Prod.fst = sl) (r1 : RetBook W base p v sl' e w1) (r2 : RRetBook w1 base q v' sl' e' w2) : Two w2 base p q sl' ∧ Fr base TT w w2 := by
  obtain ⟨_, l1, b1, m1, f1⟩ := r1
  obtain ⟨_, l2, b2, m2, f2⟩ := r2
  exact ⟨⟨l1, l2, b1.keep f2 (by decide) (by decide) (by decide), b2, m1, m2⟩, ((Fr.of_below hW).trans (f1.more (by simp [TT]))).trans (f2.more (by simp [TT]))⟩
/-- an operation, on plain data -/
def opM (sl : List Sil) (kind : Int) (s : Sil) (oid : Int) (ow : ByteArray) (tick til cls : Int) (ls : List Lab) : List Sil :=
  if kind = 0 then (openM sl s tick).2 else if kind = 1 then (extendM sl oid ow tick til).2 else if kind = 2 then (endM sl oid ow tick).2 else (hideM sl ls cls tick).2

theorem Blk.many {w : World} {b : Nat} {t : TypeId} {v0 v1 v2 v3 v4 v5 v6 v7 v8 v9 v10 v11 v12 v13 v14 v15 v16 v17 v18 v19 v20 v21 : Value} (h : Blk w b t #[v0, v1, v2, v3, v4, v5, v6, v7, v8, v9, v10, v11, v12, v13, v14, v15, v16, v17, v18, v19, v20, v21]) : w.cell? ⟨b, 0, none⟩ = some v0 ∧ w.cell? ⟨b, 1, none⟩ = some v1 ∧ w.cell? ⟨b, 2, none⟩ = some v2 ∧ w.cell? ⟨b, 3, none⟩ = some v3 ∧ w.cell? ⟨b, 4, none⟩ = some v4 ∧ w.cell? ⟨b, 5, none⟩ = some v5 ∧ w.cell? ⟨b, 6, none⟩ = some v6 ∧ w.cell? ⟨b, 7, none⟩ = some v7 ∧ w.cell? ⟨b, 8, none⟩ = some v8 ∧ w.cell? ⟨b, 9, none⟩ = some v9 ∧ w.cell? ⟨b, 10, none⟩ = some v10 ∧ w.cell? ⟨b, 11, none⟩ = some v11 ∧ w.cell? ⟨b, 12, none⟩ = some v12 ∧ w.cell? ⟨b, 13, none⟩ = some v13 ∧ w.cell? ⟨b, 14, none⟩ = some v14 ∧ w.cell? ⟨b, 15, none⟩ = some v15 ∧ w.cell? ⟨b, 16, none⟩ = some v16 ∧ w.cell? ⟨b, 17, none⟩ = some v17 ∧ w.cell? ⟨b, 18, none⟩ = some v18 ∧ w.cell? ⟨b, 19, none⟩ = some v19 ∧ w.cell? ⟨b, 20, none⟩ = some v20 ∧ w.cell? ⟨b, 21, none⟩ = some v21 := by
  unfold Blk at h
  simp [World.cell?, h]

set_option maxRecDepth 100000 in
set_option maxHeartbeats 2000000 in
theorem does_open (p q base : Nat) (sl : List Sil) (s : Sil) (oid tick til cls kd ve st sn : Int) (ow ru to_ : ByteArray) (A : Option Addr) (n c : Nat) (A' : Option Addr) (n' c' : Nat) (ls : List Lab) (w : World) (h : Two w base p q sl) (hbase : base ≤ w.heap.size) (hl : sl.length ≤ 10000) (hm : Mats w base (.slice A n c) s.ms) (hla : Labs w base (.slice A' n' c') ls) (hs : SilFit s) (hfit : ∀ x ∈ sl, CapFit x) (hid : -9223372036854775808 ≤ oid) (ht : 0 ≤ tick) (ht2 : tick ≤ 4611686018427387904) (hu1 : -4611686018427387904 ≤ til) (hu2 : til ≤ 4611686018427387904) :
    Calls Try.prog 26 #[.pointer (some ⟨p, 0, none⟩), .pointer (some ⟨q, 0, none⟩), .agg #[.int .i64 0, .int .i64 s.id, .slice A n c, .string s.ow, .string s.se, .int .i64 s.cl, .int .i64 s.fr, .int .i64 s.un, .int .i64 s.cp, .int .i64 s.hd, .int .i64 oid, .string ow, .int .i64 tick, .int .i64 til, .int .i64 cls, .int .i64 kd, .string ru, .int .i64 ve, .slice A' n' c', .int .i64 st, .int .i64 sn, .string to_]] w (RetTwo w base p q (opM sl 0 s oid ow tick til cls ls)) := by
  obtain ⟨l, l', hbk, hrk, he, he'⟩ := h
  have hl1 : l.length ≤ 10000 := by rw [mapLen he]; exact hl
  have hl2 : l'.length ≤ 10000 := by rw [mapLen he']; exact hl
  have HBK := Lib.hid (hbk.below (bel1 w (.cells #[.int .i64 0, .int .i64 s.id, .slice A n c, .string s.ow, .string s.se, .int .i64 s.cl, .int .i64 s.fr, .int .i64 s.un, .int .i64 s.cp, .int .i64 s.hd, .int .i64 oid, .string ow, .int .i64 tick, .int .i64 til, .int .i64 cls, .int .i64 kd, .string ru, .int .i64 ve, .slice A' n' c', .int .i64 st, .int .i64 sn, .string to_] 42)))
  have HRK := Lib.hid (hrk.below (bel1 w (.cells #[.int .i64 0, .int .i64 s.id, .slice A n c, .string s.ow, .string s.se, .int .i64 s.cl, .int .i64 s.fr, .int .i64 s.un, .int .i64 s.cp, .int .i64 s.hd, .int .i64 oid, .string ow, .int .i64 tick, .int .i64 til, .int .i64 cls, .int .i64 kd, .string ru, .int .i64 ve, .slice A' n' c', .int .i64 st, .int .i64 sn, .string to_] 42)))
  have HM := Lib.hid (hm.below (bel1 w (.cells #[.int .i64 0, .int .i64 s.id, .slice A n c, .string s.ow, .string s.se, .int .i64 s.cl, .int .i64 s.fr, .int .i64 s.un, .int .i64 s.cp, .int .i64 s.hd, .int .i64 oid, .string ow, .int .i64 tick, .int .i64 til, .int .i64 cls, .int .i64 kd, .string ru, .int .i64 ve, .slice A' n' c', .int .i64 st, .int .i64 sn, .string to_] 42)))
  have HLA := Lib.hid (hla.below (bel1 w (.cells #[.int .i64 0, .int .i64 s.id, .slice A n c, .string s.ow, .string s.se, .int .i64 s.cl, .int .i64 s.fr, .int .i64 s.un, .int .i64 s.cp, .int .i64 s.hd, .int .i64 oid, .string ow, .int .i64 tick, .int .i64 til, .int .i64 cls, .int .i64 kd, .string ru, .int .i64 ve, .slice A' n' c', .int .i64 st, .int .i64 sn, .string to_] 42)))
  have HOP := Lib.hid (Blk.new w #[.int .i64 0, .int .i64 s.id, .slice A n c, .string s.ow, .string s.se, .int .i64 s.cl, .int .i64 s.fr, .int .i64 s.un, .int .i64 s.cp, .int .i64 s.hd, .int .i64 oid, .string ow, .int .i64 tick, .int .i64 til, .int .i64 cls, .int .i64 kd, .string ru, .int .i64 ve, .slice A' n' c', .int .i64 st, .int .i64 sn, .string to_] 42)
  have HE := Lib.hid (And.intro he he')
  have HFIT := Lib.hid hfit
  have HSF := Lib.hid hs
  clear hbk hrk hm hla he he' hfit hs

  obtain ⟨⟨⟨r1, r2⟩, sl2⟩, hM⟩ : ∃ x, openM sl s tick = x := ⟨_, rfl⟩
  have HMM := Lib.hid hM
  have HOPM : Hid (opM sl 0 s oid ow tick til cls ls = sl2) := by unfold opM; rw [if_pos rfl, hM]; exact rfl
  clear hM
  go_enter Try.func26, Try.ntmps26
  go_wp2_with (first
    | (go_at_call 20
       refine (bopen_eq p base l s _ _ _ tick _ sl r1 r2 sl2 (by exact HBK.out) (by simp; omega) (by exact HM.out) HSF.out hl1 HE.out.1 HMM.out).mono ?_
       rintro e w1 hr
       have hr0 := hr.1
       subst hr0
       have R1 := Lib.hid hr
       have HX1 : Hid (RBookAt w1 base q l' ∧ Mats w1 base (.slice A n c) s.ms ∧ Labs w1 base (.slice A' n' c') ls ∧ Blk w1 w.heap.size 42 #[.int .i64 0, .int .i64 s.id, .slice A n c, .string s.ow, .string s.se, .int .i64 s.cl, .int .i64 s.fr, .int .i64 s.un, .int .i64 s.cp, .int .i64 s.hd, .int .i64 oid, .string ow, .int .i64 tick, .int .i64 til, .int .i64 cls, .int .i64 kd, .string ru, .int .i64 ve, .slice A' n' c', .int .i64 st, .int .i64 sn, .string to_]) := by
        obtain ⟨_, l1, _, _, f1⟩ := R1.out
        exact ⟨HRK.out.keep f1 (by decide) (by decide) (by decide), HM.out.keep f1 (by decide), HLA.out.keep f1 (by decide), HOP.out.keep f1 (by decide)⟩
       have hz1 : w.heap.size < w1.heap.size := HX1.out.2.2.2.ty.lt
       obtain ⟨x0, x1, x2, x3, x4, x5, x6, x7, x8, x9, x10, x11, x12, x13, x14, x15, x16, x17, x18, x19, x20, x21⟩ := HX1.out.2.2.2.many
       clear hr)
    | (go_at_call 33
       refine (ropen_eq q base l' s _ _ _ tick _ sl r1 r2 sl2 (by exact HX1.out.1) (by omega) (by exact HX1.out.2.1) HSF.out hl2 HE.out.2 HMM.out).mono ?_
       rintro e w2 hr
       have hr0 := hr.1
       subst hr0
       have R2 := Lib.hid hr
       clear hr))
  go_ret
  have HT := two_next (sl := sl) (bel1 w _) HRK.out HE.out.2 R1.out R2.out
  rw [HOPM.out]
  exact ⟨rfl, HT.1, HT.2⟩

set_option maxRecDepth 100000 in
set_option maxHeartbeats 2000000 in
theorem does_hide (kind : Int) (h0 : (kind == 0) = false) (h1 : (kind == 1) = false) (h2 : (kind == 2) = false) (p q base : Nat) (sl : List Sil) (s : Sil) (oid tick til cls kd ve st sn : Int) (ow ru to_ : ByteArray) (A : Option Addr) (n c : Nat) (A' : Option Addr) (n' c' : Nat) (ls : List Lab) (w : World) (h : Two w base p q sl) (hbase : base ≤ w.heap.size) (hl : sl.length ≤ 10000) (hm : Mats w base (.slice A n c) s.ms) (hla : Labs w base (.slice A' n' c') ls) (hs : SilFit s) (hfit : ∀ x ∈ sl, CapFit x) (hid : -9223372036854775808 ≤ oid) (ht : 0 ≤ tick) (ht2 : tick ≤ 4611686018427387904) (hu1 : -4611686018427387904 ≤ til) (hu2 : til ≤ 4611686018427387904) :
    Calls Try.prog 26 #[.pointer (some ⟨p, 0, none⟩), .pointer (some ⟨q, 0, none⟩), .agg #[.int .i64 kind, .int .i64 s.id, .slice A n c, .string s.ow, .string s.se, .int .i64 s.cl, .int .i64 s.fr, .int .i64 s.un, .int .i64 s.cp, .int .i64 s.hd, .int .i64 oid, .string ow, .int .i64 tick, .int .i64 til, .int .i64 cls, .int .i64 kd, .string ru, .int .i64 ve, .slice A' n' c', .int .i64 st, .int .i64 sn, .string to_]] w (RetTwo w base p q (opM sl kind s oid ow tick til cls ls)) := by
  obtain ⟨l, l', hbk, hrk, he, he'⟩ := h
  have hl1 : l.length ≤ 10000 := by rw [mapLen he]; exact hl
  have hl2 : l'.length ≤ 10000 := by rw [mapLen he']; exact hl
  have HBK := Lib.hid (hbk.below (bel1 w (.cells #[.int .i64 kind, .int .i64 s.id, .slice A n c, .string s.ow, .string s.se, .int .i64 s.cl, .int .i64 s.fr, .int .i64 s.un, .int .i64 s.cp, .int .i64 s.hd, .int .i64 oid, .string ow, .int .i64 tick, .int .i64 til, .int .i64 cls, .int .i64 kd, .string ru, .int .i64 ve, .slice A' n' c', .int .i64 st, .int .i64 sn, .string to_] 42)))
  have HRK := Lib.hid (hrk.below (bel1 w (.cells #[.int .i64 kind, .int .i64 s.id, .slice A n c, .string s.ow, .string s.se, .int .i64 s.cl, .int .i64 s.fr, .int .i64 s.un, .int .i64 s.cp, .int .i64 s.hd, .int .i64 oid, .string ow, .int .i64 tick, .int .i64 til, .int .i64 cls, .int .i64 kd, .string ru, .int .i64 ve, .slice A' n' c', .int .i64 st, .int .i64 sn, .string to_] 42)))
  have HM := Lib.hid (hm.below (bel1 w (.cells #[.int .i64 kind, .int .i64 s.id, .slice A n c, .string s.ow, .string s.se, .int .i64 s.cl, .int .i64 s.fr, .int .i64 s.un, .int .i64 s.cp, .int .i64 s.hd, .int .i64 oid, .string ow, .int .i64 tick, .int .i64 til, .int .i64 cls, .int .i64 kd, .string ru, .int .i64 ve, .slice A' n' c', .int .i64 st, .int .i64 sn, .string to_] 42)))
  have HLA := Lib.hid (hla.below (bel1 w (.cells #[.int .i64 kind, .int .i64 s.id, .slice A n c, .string s.ow, .string s.se, .int .i64 s.cl, .int .i64 s.fr, .int .i64 s.un, .int .i64 s.cp, .int .i64 s.hd, .int .i64 oid, .string ow, .int .i64 tick, .int .i64 til, .int .i64 cls, .int .i64 kd, .string ru, .int .i64 ve, .slice A' n' c', .int .i64 st, .int .i64 sn, .string to_] 42)))
  have HOP := Lib.hid (Blk.new w #[.int .i64 kind, .int .i64 s.id, .slice A n c, .string s.ow, .string s.se, .int .i64 s.cl, .int .i64 s.fr, .int .i64 s.un, .int .i64 s.cp, .int .i64 s.hd, .int .i64 oid, .string ow, .int .i64 tick, .int .i64 til, .int .i64 cls, .int .i64 kd, .string ru, .int .i64 ve, .slice A' n' c', .int .i64 st, .int .i64 sn, .string to_] 42)
  have HE := Lib.hid (And.intro he he')
  have HFIT := Lib.hid hfit
  have HSF := Lib.hid hs
  clear hbk hrk hm hla he he' hfit hs

  obtain ⟨⟨⟨r1, r2⟩, sl2⟩, hM⟩ : ∃ x, hideM sl ls cls tick = x := ⟨_, rfl⟩
  have HMM := Lib.hid hM
  have HOPM : Hid (opM sl kind s oid ow tick til cls ls = sl2) := by unfold opM; rw [if_neg (by simpa using h0), if_neg (by simpa using h1), if_neg (by simpa using h2), hM]; exact rfl
  clear hM
  go_enter Try.func26, Try.ntmps26
  go_wp2_with (first
    | (go_at_call 24
       refine (hide_eq p base l _ _ _ _ _ _ _ _ _ ls _ tick _ sl r1 r2 sl2 (by exact HBK.out) (by simp; omega) hl1 (by exact HLA.out) HFIT.out HE.out.1 HMM.out).mono ?_
       rintro e w1 hr
       have hr0 := hr.1
       subst hr0
       have R1 := Lib.hid hr
       have HX1 : Hid (RBookAt w1 base q l' ∧ Mats w1 base (.slice A n c) s.ms ∧ Labs w1 base (.slice A' n' c') ls ∧ Blk w1 w.heap.size 42 #[.int .i64 kind, .int .i64 s.id, .slice A n c, .string s.ow, .string s.se, .int .i64 s.cl, .int .i64 s.fr, .int .i64 s.un, .int .i64 s.cp, .int .i64 s.hd, .int .i64 oid, .string ow, .int .i64 tick, .int .i64 til, .int .i64 cls, .int .i64 kd, .string ru, .int .i64 ve, .slice A' n' c', .int .i64 st, .int .i64 sn, .string to_]) := by
        obtain ⟨_, l1, _, _, f1⟩ := R1.out
        exact ⟨HRK.out.keep f1 (by decide) (by decide) (by decide), HM.out.keep f1 (by decide), HLA.out.keep f1 (by decide), HOP.out.keep f1 (by decide)⟩
       have hz1 : w.heap.size < w1.heap.size := HX1.out.2.2.2.ty.lt
       obtain ⟨x0, x1, x2, x3, x4, x5, x6, x7, x8, x9, x10, x11, x12, x13, x14, x15, x16, x17, x18, x19, x20, x21⟩ := HX1.out.2.2.2.many
       clear hr)
    | (go_at_call 47
       refine (rhide_eq q base l' _ _ _ _ _ _ _ _ _ ls _ tick _ sl r1 r2 sl2 (by exact HX1.out.1) (by omega) hl2 (by exact HX1.out.2.2.1) HFIT.out HE.out.2 HMM.out).mono ?_
       rintro e w2 hr
       have hr0 := hr.1
       subst hr0
       have R2 := Lib.hid hr
       clear hr))
  go_ret
  have HT := two_next (sl := sl) (bel1 w _) HRK.out HE.out.2 R1.out R2.out
  rw [HOPM.out]
  exact ⟨rfl, HT.1, HT.2⟩

set_option maxRecDepth 100000 in
set_option maxHeartbeats 2000000 in
theorem does_extend (p q base : Nat) (sl : List Sil) (s : Sil) (oid tick til cls kd ve st sn : Int) (ow ru to_ : ByteArray) (A : Option Addr) (n c : Nat) (A' : Option Addr) (n' c' : Nat) (ls : List Lab) (w : World) (h : Two w base p q sl) (hbase : base ≤ w.heap.size) (hl : sl.length ≤ 10000) (hm : Mats w base (.slice A n c) s.ms) (hla : Labs w base (.slice A' n' c') ls) (hs : SilFit s) (hfit : ∀ x ∈ sl, CapFit x) (hid : -9223372036854775808 ≤ oid) (ht : 0 ≤ tick) (ht2 : tick ≤ 4611686018427387904) (hu1 : -4611686018427387904 ≤ til) (hu2 : til ≤ 4611686018427387904) :
    Calls Try.prog 26 #[.pointer (some ⟨p, 0, none⟩), .pointer (some ⟨q, 0, none⟩), .agg #[.int .i64 1, .int .i64 s.id, .slice A n c, .string s.ow, .string s.se, .int .i64 s.cl, .int .i64 s.fr, .int .i64 s.un, .int .i64 s.cp, .int .i64 s.hd, .int .i64 oid, .string ow, .int .i64 tick, .int .i64 til, .int .i64 cls, .int .i64 kd, .string ru, .int .i64 ve, .slice A' n' c', .int .i64 st, .int .i64 sn, .string to_]] w (RetTwo w base p q (opM sl 1 s oid ow tick til cls ls)) := by
  obtain ⟨l, l', hbk, hrk, he, he'⟩ := h
  have hl1 : l.length ≤ 10000 := by rw [mapLen he]; exact hl
  have hl2 : l'.length ≤ 10000 := by rw [mapLen he']; exact hl
  have HBK := Lib.hid (hbk.below (bel1 w (.cells #[.int .i64 1, .int .i64 s.id, .slice A n c, .string s.ow, .string s.se, .int .i64 s.cl, .int .i64 s.fr, .int .i64 s.un, .int .i64 s.cp, .int .i64 s.hd, .int .i64 oid, .string ow, .int .i64 tick, .int .i64 til, .int .i64 cls, .int .i64 kd, .string ru, .int .i64 ve, .slice A' n' c', .int .i64 st, .int .i64 sn, .string to_] 42)))
  have HRK := Lib.hid (hrk.below (bel1 w (.cells #[.int .i64 1, .int .i64 s.id, .slice A n c, .string s.ow, .string s.se, .int .i64 s.cl, .int .i64 s.fr, .int .i64 s.un, .int .i64 s.cp, .int .i64 s.hd, .int .i64 oid, .string ow, .int .i64 tick, .int .i64 til, .int .i64 cls, .int .i64 kd, .string ru, .int .i64 ve, .slice A' n' c', .int .i64 st, .int .i64 sn, .string to_] 42)))
  have HM := Lib.hid (hm.below (bel1 w (.cells #[.int .i64 1, .int .i64 s.id, .slice A n c, .string s.ow, .string s.se, .int .i64 s.cl, .int .i64 s.fr, .int .i64 s.un, .int .i64 s.cp, .int .i64 s.hd, .int .i64 oid, .string ow, .int .i64 tick, .int .i64 til, .int .i64 cls, .int .i64 kd, .string ru, .int .i64 ve, .slice A' n' c', .int .i64 st, .int .i64 sn, .string to_] 42)))
  have HLA := Lib.hid (hla.below (bel1 w (.cells #[.int .i64 1, .int .i64 s.id, .slice A n c, .string s.ow, .string s.se, .int .i64 s.cl, .int .i64 s.fr, .int .i64 s.un, .int .i64 s.cp, .int .i64 s.hd, .int .i64 oid, .string ow, .int .i64 tick, .int .i64 til, .int .i64 cls, .int .i64 kd, .string ru, .int .i64 ve, .slice A' n' c', .int .i64 st, .int .i64 sn, .string to_] 42)))
  have HOP := Lib.hid (Blk.new w #[.int .i64 1, .int .i64 s.id, .slice A n c, .string s.ow, .string s.se, .int .i64 s.cl, .int .i64 s.fr, .int .i64 s.un, .int .i64 s.cp, .int .i64 s.hd, .int .i64 oid, .string ow, .int .i64 tick, .int .i64 til, .int .i64 cls, .int .i64 kd, .string ru, .int .i64 ve, .slice A' n' c', .int .i64 st, .int .i64 sn, .string to_] 42)
  have HE := Lib.hid (And.intro he he')
  have HFIT := Lib.hid hfit
  have HSF := Lib.hid hs
  clear hbk hrk hm hla he he' hfit hs

  obtain ⟨⟨r1, sl2⟩, hM⟩ : ∃ x, extendM sl oid ow tick til = x := ⟨_, rfl⟩
  have HMM := Lib.hid hM
  have HOPM : Hid (opM sl 1 s oid ow tick til cls ls = sl2) := by unfold opM; rw [if_neg (by omega), if_pos rfl, hM]; exact rfl
  clear hM
  go_enter Try.func26, Try.ntmps26
  go_wp2
  go_region_held3 (fun w' => w'.cell? ⟨w.heap.size, 10, none⟩ = some (.int .i64 oid) ∧ w'.cell? ⟨w.heap.size, 11, none⟩ = some (.string ow) ∧ w'.cell? ⟨w.heap.size, 12, none⟩ = some (.int .i64 tick) ∧ w'.cell? ⟨w.heap.size, 13, none⟩ = some (.int .i64 til))
    (first | go_keep | exact ⟨z10, z11, z12, z13⟩ | exact ⟨y10, y11, y12, y13⟩)
    (first
     | (go_at_call 23
        refine (extend_eq p base l oid tick til ow _ sl r1 sl2 (by exact HBK.out) hl1 hid ht ht2 hu1 hu2 HE.out.1 HMM.out).mono ?_
        rintro e w1 hr
        have hr0 := hr.1
        subst hr0
        have R1 := Lib.hid hr
        have HX1 : Hid (RBookAt w1 base q l' ∧ Blk w1 w.heap.size 42 #[.int .i64 1, .int .i64 s.id, .slice A n c, .string s.ow, .string s.se, .int .i64 s.cl, .int .i64 s.fr, .int .i64 s.un, .int .i64 s.cp, .int .i64 s.hd, .int .i64 oid, .string ow, .int .i64 tick, .int .i64 til, .int .i64 cls, .int .i64 kd, .string ru, .int .i64 ve, .slice A' n' c', .int .i64 st, .int .i64 sn, .string to_]) := by
          obtain ⟨_, l1, _, _, f1⟩ := R1.out
          exact ⟨RBookAt.keep (w := (w.alloc (.cells #[.int .i64 1, .int .i64 s.id, .slice A n c, .string s.ow, .string s.se, .int .i64 s.cl, .int .i64 s.fr, .int .i64 s.un, .int .i64 s.cp, .int .i64 s.hd, .int .i64 oid, .string ow, .int .i64 tick, .int .i64 til, .int .i64 cls, .int .i64 kd, .string ru, .int .i64 ve, .slice A' n' c', .int .i64 st, .int .i64 sn, .string to_] 42)).drew) HRK.out f1 (by decide) (by decide) (by decide), Blk.keep (w := (w.alloc (.cells #[.int .i64 1, .int .i64 s.id, .slice A n c, .string s.ow, .string s.se, .int .i64 s.cl, .int .i64 s.fr, .int .i64 s.un, .int .i64 s.cp, .int .i64 s.hd, .int .i64 oid, .string ow, .int .i64 tick, .int .i64 til, .int .i64 cls, .int .i64 kd, .string ru, .int .i64 ve, .slice A' n' c', .int .i64 st, .int .i64 sn, .string to_] 42)).drew) HOP.out f1 (by decide)⟩
        obtain ⟨_, _, _, _, _, _, _, _, _, _, y10, y11, y12, y13, _, _, _, _, _, _, _, _⟩ := HX1.out.2.many
        clear hr)
     | (go_at_call 45
        refine (rextend_eq q base l' oid tick til ow _ sl r1 sl2 (by exact HX1.out.1) hl2 hid ht ht2 hu1 hu2 HE.out.2 HMM.out).mono ?_
        rintro e w2 hr
        have hr0 := hr.1
        subst hr0
        have R2 := Lib.hid hr
        have HX2 : Hid (Blk w2 w.heap.size 42 #[.int .i64 1, .int .i64 s.id, .slice A n c, .string s.ow, .string s.se, .int .i64 s.cl, .int .i64 s.fr, .int .i64 s.un, .int .i64 s.cp, .int .i64 s.hd, .int .i64 oid, .string ow, .int .i64 tick, .int .i64 til, .int .i64 cls, .int .i64 kd, .string ru, .int .i64 ve, .slice A' n' c', .int .i64 st, .int .i64 sn, .string to_]) := by
          obtain ⟨_, l1, _, _, f1⟩ := R2.out
          exact HX1.out.2.keep f1 (by decide)
        obtain ⟨_, _, _, _, _, _, _, _, _, _, z10, z11, z12, z13, _, _, _, _, _, _, _, _⟩ := HX2.out.many
        clear hr))
  all_goals
    go_wp2
    go_ret
    have HT := two_next (sl := sl) (W := (w.alloc (.cells #[.int .i64 1, .int .i64 s.id, .slice A n c, .string s.ow, .string s.se, .int .i64 s.cl, .int .i64 s.fr, .int .i64 s.un, .int .i64 s.cp, .int .i64 s.hd, .int .i64 oid, .string ow, .int .i64 tick, .int .i64 til, .int .i64 cls, .int .i64 kd, .string ru, .int .i64 ve, .slice A' n' c', .int .i64 st, .int .i64 sn, .string to_] 42)).drew) (bel1 w _).drew HRK.out HE.out.2 R1.out R2.out
    rw [HOPM.out]
    exact ⟨rfl, HT.1, HT.2⟩

set_option maxRecDepth 100000 in
set_option maxHeartbeats 2000000 in
theorem does_end (p q base : Nat) (sl : List Sil) (s : Sil) (oid tick til cls kd ve st sn : Int) (ow ru to_ : ByteArray) (A : Option Addr) (n c : Nat) (A' : Option Addr) (n' c' : Nat) (ls : List Lab) (w : World) (h : Two w base p q sl) (hbase : base ≤ w.heap.size) (hl : sl.length ≤ 10000) (hm : Mats w base (.slice A n c) s.ms) (hla : Labs w base (.slice A' n' c') ls) (hs : SilFit s) (hfit : ∀ x ∈ sl, CapFit x) (hid : -9223372036854775808 ≤ oid) (ht : 0 ≤ tick) (ht2 : tick ≤ 4611686018427387904) (hu1 : -4611686018427387904 ≤ til) (hu2 : til ≤ 4611686018427387904) :
    Calls Try.prog 26 #[.pointer (some ⟨p, 0, none⟩), .pointer (some ⟨q, 0, none⟩), .agg #[.int .i64 2, .int .i64 s.id, .slice A n c, .string s.ow, .string s.se, .int .i64 s.cl, .int .i64 s.fr, .int .i64 s.un, .int .i64 s.cp, .int .i64 s.hd, .int .i64 oid, .string ow, .int .i64 tick, .int .i64 til, .int .i64 cls, .int .i64 kd, .string ru, .int .i64 ve, .slice A' n' c', .int .i64 st, .int .i64 sn, .string to_]] w (RetTwo w base p q (opM sl 2 s oid ow tick til cls ls)) := by
  obtain ⟨l, l', hbk, hrk, he, he'⟩ := h
  have hl1 : l.length ≤ 10000 := by rw [mapLen he]; exact hl
  have hl2 : l'.length ≤ 10000 := by rw [mapLen he']; exact hl
  have HBK := Lib.hid (hbk.below (bel1 w (.cells #[.int .i64 2, .int .i64 s.id, .slice A n c, .string s.ow, .string s.se, .int .i64 s.cl, .int .i64 s.fr, .int .i64 s.un, .int .i64 s.cp, .int .i64 s.hd, .int .i64 oid, .string ow, .int .i64 tick, .int .i64 til, .int .i64 cls, .int .i64 kd, .string ru, .int .i64 ve, .slice A' n' c', .int .i64 st, .int .i64 sn, .string to_] 42)))
  have HRK := Lib.hid (hrk.below (bel1 w (.cells #[.int .i64 2, .int .i64 s.id, .slice A n c, .string s.ow, .string s.se, .int .i64 s.cl, .int .i64 s.fr, .int .i64 s.un, .int .i64 s.cp, .int .i64 s.hd, .int .i64 oid, .string ow, .int .i64 tick, .int .i64 til, .int .i64 cls, .int .i64 kd, .string ru, .int .i64 ve, .slice A' n' c', .int .i64 st, .int .i64 sn, .string to_] 42)))
  have HM := Lib.hid (hm.below (bel1 w (.cells #[.int .i64 2, .int .i64 s.id, .slice A n c, .string s.ow, .string s.se, .int .i64 s.cl, .int .i64 s.fr, .int .i64 s.un, .int .i64 s.cp, .int .i64 s.hd, .int .i64 oid, .string ow, .int .i64 tick, .int .i64 til, .int .i64 cls, .int .i64 kd, .string ru, .int .i64 ve, .slice A' n' c', .int .i64 st, .int .i64 sn, .string to_] 42)))
  have HLA := Lib.hid (hla.below (bel1 w (.cells #[.int .i64 2, .int .i64 s.id, .slice A n c, .string s.ow, .string s.se, .int .i64 s.cl, .int .i64 s.fr, .int .i64 s.un, .int .i64 s.cp, .int .i64 s.hd, .int .i64 oid, .string ow, .int .i64 tick, .int .i64 til, .int .i64 cls, .int .i64 kd, .string ru, .int .i64 ve, .slice A' n' c', .int .i64 st, .int .i64 sn, .string to_] 42)))
  have HOP := Lib.hid (Blk.new w #[.int .i64 2, .int .i64 s.id, .slice A n c, .string s.ow, .string s.se, .int .i64 s.cl, .int .i64 s.fr, .int .i64 s.un, .int .i64 s.cp, .int .i64 s.hd, .int .i64 oid, .string ow, .int .i64 tick, .int .i64 til, .int .i64 cls, .int .i64 kd, .string ru, .int .i64 ve, .slice A' n' c', .int .i64 st, .int .i64 sn, .string to_] 42)
  have HE := Lib.hid (And.intro he he')
  have HFIT := Lib.hid hfit
  have HSF := Lib.hid hs
  clear hbk hrk hm hla he he' hfit hs

  obtain ⟨⟨r1, sl2⟩, hM⟩ : ∃ x, endM sl oid ow tick = x := ⟨_, rfl⟩
  have HMM := Lib.hid hM
  have HOPM : Hid (opM sl 2 s oid ow tick til cls ls = sl2) := by unfold opM; rw [if_neg (by omega), if_neg (by omega), if_pos rfl, hM]; exact rfl
  clear hM
  go_enter Try.func26, Try.ntmps26
  go_wp2
  go_region_held3 (fun w' => w'.cell? ⟨w.heap.size, 10, none⟩ = some (.int .i64 oid) ∧ w'.cell? ⟨w.heap.size, 11, none⟩ = some (.string ow) ∧ w'.cell? ⟨w.heap.size, 12, none⟩ = some (.int .i64 tick))
    (first | go_keep | exact ⟨z10, z11, z12⟩ | exact ⟨y10, y11, y12⟩)
    (first
     | (go_at_call 28
        refine (end_eq p base l oid tick ow _ sl r1 sl2 (by exact HBK.out) hl1 hid HE.out.1 HMM.out).mono ?_
        rintro e w1 hr
        have hr0 := hr.1
        subst hr0
        have R1 := Lib.hid hr
        have HX1 : Hid (RBookAt w1 base q l' ∧ Blk w1 w.heap.size 42 #[.int .i64 2, .int .i64 s.id, .slice A n c, .string s.ow, .string s.se, .int .i64 s.cl, .int .i64 s.fr, .int .i64 s.un, .int .i64 s.cp, .int .i64 s.hd, .int .i64 oid, .string ow, .int .i64 tick, .int .i64 til, .int .i64 cls, .int .i64 kd, .string ru, .int .i64 ve, .slice A' n' c', .int .i64 st, .int .i64 sn, .string to_]) := by
          obtain ⟨_, l1, _, _, f1⟩ := R1.out
          exact ⟨RBookAt.keep (w := (w.alloc (.cells #[.int .i64 2, .int .i64 s.id, .slice A n c, .string s.ow, .string s.se, .int .i64 s.cl, .int .i64 s.fr, .int .i64 s.un, .int .i64 s.cp, .int .i64 s.hd, .int .i64 oid, .string ow, .int .i64 tick, .int .i64 til, .int .i64 cls, .int .i64 kd, .string ru, .int .i64 ve, .slice A' n' c', .int .i64 st, .int .i64 sn, .string to_] 42)).drew) HRK.out f1 (by decide) (by decide) (by decide), Blk.keep (w := (w.alloc (.cells #[.int .i64 2, .int .i64 s.id, .slice A n c, .string s.ow, .string s.se, .int .i64 s.cl, .int .i64 s.fr, .int .i64 s.un, .int .i64 s.cp, .int .i64 s.hd, .int .i64 oid, .string ow, .int .i64 tick, .int .i64 til, .int .i64 cls, .int .i64 kd, .string ru, .int .i64 ve, .slice A' n' c', .int .i64 st, .int .i64 sn, .string to_] 42)).drew) HOP.out f1 (by decide)⟩
        obtain ⟨_, _, _, _, _, _, _, _, _, _, y10, y11, y12, _, _, _, _, _, _, _, _, _⟩ := HX1.out.2.many
        clear hr)
     | (go_at_call 46
        refine (rend_eq q base l' oid tick ow _ sl r1 sl2 (by exact HX1.out.1) hl2 hid HE.out.2 HMM.out).mono ?_
        rintro e w2 hr
        have hr0 := hr.1
        subst hr0
        have R2 := Lib.hid hr
        have HX2 : Hid (Blk w2 w.heap.size 42 #[.int .i64 2, .int .i64 s.id, .slice A n c, .string s.ow, .string s.se, .int .i64 s.cl, .int .i64 s.fr, .int .i64 s.un, .int .i64 s.cp, .int .i64 s.hd, .int .i64 oid, .string ow, .int .i64 tick, .int .i64 til, .int .i64 cls, .int .i64 kd, .string ru, .int .i64 ve, .slice A' n' c', .int .i64 st, .int .i64 sn, .string to_]) := by
          obtain ⟨_, l1, _, _, f1⟩ := R2.out
          exact HX1.out.2.keep f1 (by decide)
        obtain ⟨_, _, _, _, _, _, _, _, _, _, z10, z11, z12, _, _, _, _, _, _, _, _, _⟩ := HX2.out.many
        clear hr))
  all_goals
    go_wp2
    go_ret
    have HT := two_next (sl := sl) (W := (w.alloc (.cells #[.int .i64 2, .int .i64 s.id, .slice A n c, .string s.ow, .string s.se, .int .i64 s.cl, .int .i64 s.fr, .int .i64 s.un, .int .i64 s.cp, .int .i64 s.hd, .int .i64 oid, .string ow, .int .i64 tick, .int .i64 til, .int .i64 cls, .int .i64 kd, .string ru, .int .i64 ve, .slice A' n' c', .int .i64 st, .int .i64 sn, .string to_] 42)).drew) (bel1 w _).drew HRK.out HE.out.2 R1.out R2.out
    rw [HOPM.out]
    exact ⟨rfl, HT.1, HT.2⟩

theorem does_any (kind : Int) (p q base : Nat) (sl : List Sil) (s : Sil) (oid tick til cls kd ve st sn : Int) (ow ru to_ : ByteArray) (A : Option Addr) (n c : Nat) (A' : Option Addr) (n' c' : Nat) (ls : List Lab) (w : World) (h : Two w base p q sl) (hbase : base ≤ w.heap.size) (hl : sl.length ≤ 10000) (hm : Mats w base (.slice A n c) s.ms) (hla : Labs w base (.slice A' n' c') ls) (hs : SilFit s) (hfit : ∀ x ∈ sl, CapFit x) (hid : -9223372036854775808 ≤ oid) (ht : 0 ≤ tick) (ht2 : tick ≤ 4611686018427387904) (hu1 : -4611686018427387904 ≤ til) (hu2 : til ≤ 4611686018427387904) :
    Calls Try.prog 26 #[.pointer (some ⟨p, 0, none⟩), .pointer (some ⟨q, 0, none⟩), .agg #[.int .i64 kind, .int .i64 s.id, .slice A n c, .string s.ow, .string s.se, .int .i64 s.cl, .int .i64 s.fr, .int .i64 s.un, .int .i64 s.cp, .int .i64 s.hd, .int .i64 oid, .string ow, .int .i64 tick, .int .i64 til, .int .i64 cls, .int .i64 kd, .string ru, .int .i64 ve, .slice A' n' c', .int .i64 st, .int .i64 sn, .string to_]] w (RetTwo w base p q (opM sl kind s oid ow tick til cls ls)) := by
  by_cases h0 : kind = 0
  · subst h0; exact does_open p q base sl s oid tick til cls kd ve st sn ow ru to_ A n c A' n' c' ls w h hbase hl hm hla hs hfit hid ht ht2 hu1 hu2
  by_cases h1 : kind = 1
  · subst h1; exact does_extend p q base sl s oid tick til cls kd ve st sn ow ru to_ A n c A' n' c' ls w h hbase hl hm hla hs hfit hid ht ht2 hu1 hu2
  by_cases h2 : kind = 2
  · subst h2; exact does_end p q base sl s oid tick til cls kd ve st sn ow ru to_ A n c A' n' c' ls w h hbase hl hm hla hs hfit hid ht ht2 hu1 hu2
  · exact does_hide kind (by simpa using h0) (by simpa using h1) (by simpa using h2) p q base sl s oid tick til cls kd ve st sn ow ru to_ A n c A' n' c' ls w h hbase hl hm hla hs hfit hid ht ht2 hu1 hu2
end Go.Proofs.Ytoafpajibeejlaa
