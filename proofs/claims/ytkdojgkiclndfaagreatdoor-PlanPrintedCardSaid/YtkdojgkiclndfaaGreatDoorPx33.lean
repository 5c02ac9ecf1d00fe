/- Contracts, packed: Ld. -/
import Derived.Test.YtkdojgkiclndfaaGreatDoorPx32
set_option linter.unusedVariables false
set_option linter.unusedSimpArgs false
namespace Go.Proofs.YtkdojgkiclndfaaGreatDoor
section
open Go.RowKit FracM
def isE (es : List ETok) (k : Int) (x : List UInt8) : Bool := match es with | [] => false | e :: _ => e.1 == k && e.2.1 == x
def kindE (es : List ETok) (k : Int) : Bool := match es with | [] => false | e :: _ => e.1 == k
theorem isT_er (ts : List Tok) (k : Int) (x : List UInt8) : isT ts k x = isE (ts.map er) k x := by cases ts <;> rfl
theorem kindT_er (ts : List Tok) (k : Int) : kindT ts k = kindE (ts.map er) k := by cases ts <;> rfl
theorem hd_er {ts : List Tok} {e : ETok} {es : List ETok} (h : ts.map er = e :: es) : (headT ts).kind = e.1 ∧ (headT ts).text = e.2.1 ∧ (headT ts).n = e.2.2 ∧ ts.tail.map er = es ∧ ∃ t r, ts = t :: r := by
 cases ts with
 | nil => simp at h
 | cons t r =>
  simp only [List.map_cons, List.cons.injEq] at h
  obtain ⟨h1, h2⟩ := h
  subst h1
  exact ⟨rfl, rfl, rfl, h2, _, _, rfl⟩
/-- the result is this, and these tokens are left -/
def PR {α : Type} (r : Res α) (a : α) (es : List ETok) : Prop := ∃ us, r = .ok (a, us) ∧ us.map er = es
theorem PR.and {α β : Type} {r : Res α} {a : α} {es es' : List ETok} {f : α → List Tok → Res β} {b : β} (h : PR r a es) (k : ∀ us, us.map er = es → PR (f a us) b es') : PR (andR r f) b es' := by
 obtain ⟨us, rfl, hu⟩ := h
 exact k us hu
theorem PR.ok {α : Type} {a : α} {us : List Tok} {es : List ETok} (h : us.map er = es) : PR (.ok (a, us)) a es := ⟨us, rfl, h⟩
theorem symbol_ok {en : Int} {x : List UInt8} {ts : List Tok} {es : List ETok} (h : ts.map er = eS x :: es) : PR (symbolM en x ts) () es := by
 unfold symbolM
 rw [isT_er, h, if_pos (by simp [isE])]
 exact PR.ok (hd_er h).2.2.2.1
theorem number_ok {en lo hi n : Int} {ts : List Tok} {es : List ETok} (h : ts.map er = eN n :: es) (h1 : lo ≤ n) (h2 : n ≤ hi) : PR (numberM en lo hi ts) n es := by
 unfold numberM
 obtain ⟨-, -, h3, h4, -⟩ := hd_er h
 have h5 : (headT ts).n = n := h3
 rw [kindT_er, h, if_pos (by simp [kindE]), h5, if_neg (by omega)]
 exact PR.ok h4
theorem bs_lst (s : ByteArray) : bsL s.data.toList = s := by unfold bsL; simp
theorem idx_matchL (k : Nat) (h : k < 3) : idxT matchT (matchT.getD k []) = k := by
 match k, h with
 | 0, _ => decide
 | 1, _ => decide
 | 2, _ => decide
theorem idx_fun (k : Nat) (h : k < 8) : idxT funcsT (funcsT.getD k []) = k := by
 match k, h with
 | 0, _ => decide
 | 1, _ => decide
 | 2, _ => decide
 | 3, _ => decide
 | 4, _ => decide
 | 5, _ => decide
 | 6, _ => decide
 | 7, _ => decide
theorem idx_grp (k : Nat) (h : k < 5) : idxT groupsT (groupsT.getD k []) = k := by
 match k, h with
 | 0, _ => decide
 | 1, _ => decide
 | 2, _ => decide
 | 3, _ => decide
 | 4, _ => decide
theorem pmatch_ok {en : Int} {before : Nat} {m : Mat} {ts : List Tok} {es : List ETok} (h : ts.map er = tMtc m ++ es) (hb : before < 8) (hk : 0 ≤ m.2.1 ∧ m.2.1 ≤ 2) : PR (matchM en before ts) m es := by
 obtain ⟨m0, m1, m2⟩ := m
 obtain ⟨k, rfl⟩ : ∃ k : Nat, m1 = k := ⟨m1.toNat, by have := hk.1; simp only at this; omega⟩
 have hk3 : k < 3 := by have := hk.2; simp only at this; omega
 unfold tMtc at h
 simp only [Int.toNat_natCast, List.cons_append, List.nil_append] at h
 obtain ⟨a1, a2, a3, a4, -⟩ := hd_er h
 obtain ⟨b1, b2, b3, b4, -⟩ := hd_er a4
 obtain ⟨c1, c2, c3, c4, -⟩ := hd_er b4
 unfold matchM
 rw [kindT_er, h, if_pos (by simp [kindE]), if_neg (by omega), kindT_er, a4, b2, if_pos ⟨by simp [kindE], by simp only; rw [idx_matchL k hk3]; omega⟩, kindT_er, b4, if_pos (by simp [kindE]), a2, c2]
 simp only
 rw [idx_matchL k hk3, bs_lst, bs_lst]
 exact PR.ok c4
theorem pmatchs_ok {en : Int} : ∀ (ms : List Mat) (n : Nat) (before : List Mat) (m : Mat) (ts : List Tok) (es : List ETok), ts.map er = tMtc m ++ (tMatsR ms ++ es) → ms.length < n → before.length + ms.length < 8 → (∀ x ∈ m :: ms, 0 ≤ x.2.1 ∧ x.2.1 ≤ 2) →
  PR (matchsM n en before ts) (before ++ m :: ms) (eS [125] :: es) := by
 intro ms
 induction ms with
 | nil =>
  intro n before m ts es h hn hb hk
  obtain ⟨n, rfl⟩ : ∃ k, n = k + 1 := ⟨n - 1, by simp at hn; omega⟩
  rw [matchsM]
  refine (pmatch_ok h (by simpa using hb) (hk m (by simp))).and fun us hu => ?_
  rw [isT_er, hu, if_neg (by simp [tMatsR, isE])]
  exact PR.ok hu
 | cons x ms ih =>
  intro n before m ts es h hn hb hk
  simp only [List.length_cons] at hn hb
  obtain ⟨n, rfl⟩ : ∃ k, n = k + 1 := ⟨n - 1, by omega⟩
  rw [matchsM]
  refine (pmatch_ok h (by omega) (hk m (by simp))).and fun us hu => ?_
  rw [tMatsR] at hu
  simp only [List.cons_append, List.append_assoc] at hu
  rw [isT_er, hu, if_pos (by simp [isE])]
  have := ih n (before ++ [m]) x us.tail es (hd_er hu).2.2.2.1 (by omega) (by simp; omega) fun y hy => hk y (by simp at hy ⊢; right; exact hy)
  simpa [List.append_assoc] using this
/-- what may not follow a selection -/
def Fw3 (es : List ETok) : Prop := isE es 3 [123] = false ∧ isE es 3 [46] = false ∧ isE es 3 [64] = false
def Fw2 (es : List ETok) : Prop := Fw3 es ∧ isE es 3 [42] = false ∧ isE es 3 [47] = false
def Fw1 (es : List ETok) : Prop := Fw2 es ∧ isE es 3 [43] = false ∧ isE es 3 [45] = false
theorem tMatsR_len (ms : List Mat) : ms.length ≤ (tMatsR ms).length := by
 induction ms with
 | nil => simp
 | cons x xs ih => simp only [tMatsR, List.length_cons, List.length_append]; omega
theorem sMat_ok {en : Int} {ms : List Mat} {ts : List Tok} {es : List ETok} (h : ts.map er = tMats ms ++ es) (hl : ms.length ≤ 8) (hk : ∀ x ∈ ms, 0 ≤ x.2.1 ∧ x.2.1 ≤ 2) (hf : isE es 3 [123] = false) : PR (sMatM en ts) ms es := by
 unfold sMatM
 cases ms with
 | nil =>
  simp only [tMats, List.nil_append] at h
  rw [isT_er, h, if_neg (by rw [hf]; simp)]
  exact PR.ok h
 | cons m ms =>
  simp only [tMats, List.cons_append, List.append_assoc] at h
  have h2 := (hd_er h).2.2.2.1
  rw [isT_er, h, if_pos (by simp [isE]), isT_er, h2, if_neg (by simp [tMtc, isE])]
  have hlen : ms.length < ts.tail.length + 1 := by
   have := congrArg List.length h2
   rw [List.length_map] at this
   simp only [List.length_append] at this
   have := tMatsR_len ms
   omega
  refine (pmatchs_ok ms _ [] m _ es h2 hlen (by simp at hl ⊢; omega) hk).and fun us hu => ?_
  exact (symbol_ok hu).and fun vs hv => PR.ok hv
theorem sFun_ok {en fn win k : Int} {ts : List Tok} {es : List ETok} (h : ts.map er = tFnc fn win k ++ es) (hf : 0 ≤ fn ∧ fn ≤ 7) (h0 : fn = 0 → win = 0 ∧ k = 0) (hw : fn ≠ 0 → 1 ≤ win ∧ win ≤ 4096) (hk : fn = 7 → 1 ≤ k ∧ k ≤ win) (hk0 : fn ≠ 7 → k = 0) (hd : isE es 3 [46] = false) : PR (sFunM en ts) (fn, win, k) es := by
 unfold sFunM
 unfold tFnc at h
 by_cases hz : fn = 0
 ·rw [if_pos hz, List.nil_append] at h
  rw [isT_er, h, if_neg (by rw [hd]; simp), hz, (h0 hz).1, (h0 hz).2]
  exact PR.ok h
 ·rw [if_neg hz] at h
  simp only [List.cons_append, List.append_assoc] at h
  have h2 := (hd_er h).2.2.2.1
  rw [isT_er, h, if_pos (by simp [isE])]
  obtain ⟨f, rfl⟩ : ∃ f : Nat, fn = f := ⟨fn.toNat, by omega⟩
  have hix := idx_fun f (by omega)
  simp only [Int.toNat_natCast] at h2
  obtain ⟨a1, a2, a3, a4, -⟩ := hd_er h2
  simp only at a2
  unfold funM
  rw [a2, hix, kindT_er, h2, if_pos ⟨by simp [kindE], by omega⟩, if_neg hz]
  refine (symbol_ok a4).and fun u1 hu1 => (number_ok hu1 (by have := hw hz; omega) (by have := hw hz; omega)).and fun u2 hu2 => ?_
  have hin : PR (if (f : Int) = 7 then andR (symbolM en sComma u2) fun _ ts3 => numberM en 1 win ts3 else .ok (0, u2)) k (eS [41] :: es) := by
   by_cases h7 : (f : Int) = 7
   ·rw [if_pos h7] at hu2 ⊢
    simp only [List.cons_append, List.nil_append] at hu2
    exact (symbol_ok hu2).and fun u3 hu3 => number_ok hu3 (by have := hk h7; omega) (by have := hk h7; omega)
   ·rw [if_neg h7] at hu2 ⊢
    rw [hk0 h7]
    exact PR.ok (by simpa using hu2)
  exact hin.and fun u4 hu4 => (symbol_ok hu4).and fun u5 hu5 => PR.ok hu5
theorem sOff_ok {en o : Int} {ts : List Tok} {es : List ETok} (h : ts.map er = tOff o ++ es) (ho : 0 ≤ o ∧ o ≤ 4096) (hd : isE es 3 [64] = false) : PR (sOffM en ts) o es := by
 unfold sOffM
 unfold tOff at h
 by_cases hz : o = 0
 ·rw [if_pos hz, List.nil_append] at h
  rw [isT_er, h, if_neg (by rw [hd]; simp), hz]
  exact PR.ok h
 ·rw [if_neg hz] at h
  simp only [List.cons_append, List.nil_append] at h
  rw [isT_er, h, if_pos (by simp [isE])]
  exact number_ok (hd_er h).2.2.2.1 ho.1 ho.2
/-- a selection as the parser makes it -/
structure SelP (d : Nd) : Prop extends SelOk d where
 kind : d.kind = 1
 z : d.fn = 0 → d.win = 0 ∧ d.k = 0
 k0 : d.fn ≠ 7 → d.k = 0
 num : d.num = 0 ∧ d.den = 0
 bys : d.bys = []
 len : d.ms.length ≤ 8
theorem select_ok {en : Int} {d : Nd} {ts : List Tok} {es : List ETok} (h : ts.map er = tMats d.ms ++ (tFnc d.fn d.win d.k ++ (tOff d.off ++ es))) (hd : SelP d) (hf : Fw3 es) (hn : isE (tFnc d.fn d.win d.k ++ (tOff d.off ++ es)) 3 [123] = false) (hn2 : isE (tOff d.off ++ es) 3 [46] = false) : PR (selectM en d.name.data.toList ts) (.node d []) es := by
 unfold selectM
 have hk : ∀ m ∈ d.ms, 0 ≤ m.2.1 ∧ m.2.1 ≤ 2 := fun m hm => by
  have := hd.ms m hm
  unfold vmatB at this
  simp only [Bool.and_eq_true, decide_eq_true_eq] at this
  exact this.1.2
 refine (sMat_ok h hd.len hk hn).and fun u1 hu1 => (sFun_ok hu1 hd.fn hd.z hd.win hd.k hd.k0 hn2).and fun u2 hu2 => (sOff_ok hu2 hd.off hf.2.2).and fun u3 hu3 => ?_
 obtain ⟨kd, fn, wi, of, k, nu, de, na, ms, bys⟩ := d
 have h1 := hd.kind; have h2 := hd.num; have h3 := hd.bys
 simp only at h1 h2 h3
 obtain ⟨rfl, rfl⟩ := h2
 subst h1 h3
 rw [bs_lst]
 exact PR.ok hu3
theorem no_curl {d : Nd} {es : List ETok} (hf : Fw3 es) : isE (tFnc d.fn d.win d.k ++ (tOff d.off ++ es)) 3 [123] = false := by
 unfold tFnc
 split
 ·unfold tOff
  split
  ·exact hf.1
  ·simp [isE]
 ·simp [isE]
theorem no_dot {d : Nd} {es : List ETok} (hf : Fw3 es) : isE (tOff d.off ++ es) 3 [46] = false := by
 unfold tOff
 split
 ·exact hf.2.1
 ·simp [isE]
theorem gK_ok {en : Int} {fn k : Int} {ts : List Tok} {es : List ETok} (h : ts.map er = (if fn = 4 then [eS [40], eN k, eS [41]] else []) ++ es) (hk : fn = 4 → 1 ≤ k ∧ k ≤ 4096) (hk0 : fn ≠ 4 → k = 0) : PR (gKM en fn ts) k es := by
 unfold gKM
 by_cases h4 : fn = 4
 ·rw [if_pos h4] at h ⊢
  simp only [List.cons_append, List.nil_append] at h
  exact (symbol_ok h).and fun u1 hu1 => (number_ok hu1 (hk h4).1 (hk h4).2).and fun u2 hu2 => (symbol_ok hu2).and fun u3 hu3 => PR.ok hu3
 ·rw [if_neg h4] at h ⊢
  rw [hk0 h4]
  exact PR.ok (by simpa using h)
def prevLe (o : Option ByteArray) (x : ByteArray) : Bool := match o with | none => false | some p => leS x p
theorem pby_ok {en : Int} {before : List ByteArray} {x : ByteArray} {ts : List Tok} {es : List ETok} (h : ts.map er = eW x.data.toList :: es) (hb : before.length < 8) (hp : prevLe before.getLast? x = false) : PR (byM en before ts) x es := by
 unfold byM
 obtain ⟨-, h2, -, h4, -⟩ := hd_er h
 simp only at h2
 rw [h2, bs_lst, kindT_er, h, if_pos (by simp [kindE]), if_neg (by omega)]
 generalize before.getLast? = o at hp ⊢
 cases o with
 | none => exact PR.ok h4
 | some p =>
  exact (if_neg (show ¬(leS x p = true) by rw [show leS x p = false from hp]; simp)).symm ▸ PR.ok h4
theorem bysFrom_tl {o : Option ByteArray} {x : ByteArray} {xs : List ByteArray} (h : bysFrom o (x :: xs) = true) : prevLe o x = false ∧ bysFrom (some x) xs = true := by
 cases o with
 | none =>
  have h2 : (nameB x && !false && bysFrom (some x) xs) = true := h
  simp only [Bool.and_eq_true] at h2
  exact ⟨rfl, h2.2⟩
 | some p =>
  have h2 : (nameB x && !(leS x p) && bysFrom (some x) xs) = true := h
  simp only [Bool.and_eq_true, Bool.not_eq_true'] at h2
  exact ⟨h2.1.2, h2.2⟩
theorem pbys_ok {en : Int} : ∀ (l : List ByteArray) (n : Nat) (before : List ByteArray) (x : ByteArray) (ts : List Tok) (es : List ETok), ts.map er = eW x.data.toList :: (tBysR l ++ es) → l.length < n → before.length + l.length < 8 → bysFrom before.getLast? (x :: l) = true →
  PR (bysM n en before ts) (before ++ x :: l) (eS [41] :: es) := by
 intro l
 induction l with
 | nil =>
  intro n before x ts es h hn hb hp
  obtain ⟨n, rfl⟩ : ∃ k, n = k + 1 := ⟨n - 1, by simp at hn; omega⟩
  rw [bysM]
  refine (pby_ok h (by simpa using hb) (bysFrom_tl hp).1).and fun us hu => ?_
  rw [isT_er, hu, if_neg (by simp [tBysR, isE])]
  exact PR.ok hu
 | cons y l ih =>
  intro n before x ts es h hn hb hp
  simp only [List.length_cons] at hn hb
  obtain ⟨n, rfl⟩ : ∃ k, n = k + 1 := ⟨n - 1, by omega⟩
  rw [bysM]
  refine (pby_ok h (by omega) (bysFrom_tl hp).1).and fun us hu => ?_
  rw [tBysR] at hu
  simp only [List.cons_append] at hu
  rw [isT_er, hu, if_pos (by simp [isE])]
  have := ih n (before ++ [x]) y us.tail es (hd_er hu).2.2.2.1 (by omega) (by simp; omega) (by rw [List.getLast?_append]; simpa using (bysFrom_tl hp).2)
  simpa [List.append_assoc] using this
theorem tBysR_len (l : List ByteArray) : l.length ≤ (tBysR l).length := by
 induction l with
 | nil => simp
 | cons x xs ih => simp only [tBysR, List.length_cons]; omega
theorem gBy_ok {en : Int} {l : List ByteArray} {ts : List Tok} {es : List ETok} (h : ts.map er = tBys l ++ es) (hl : l.length ≤ 8) (hb : bysB l = true) (hd : isE es 0 [98, 121] = false) : PR (gByM en ts) l es := by
 unfold gByM
 cases l with
 | nil =>
  simp only [tBys, List.nil_append] at h
  rw [isT_er, h, if_neg (by rw [hd]; simp)]
  exact PR.ok h
 | cons x xs =>
  simp only [tBys, List.cons_append] at h
  rw [isT_er, h, if_pos (by simp [isE])]
  refine (symbol_ok (hd_er h).2.2.2.1).and fun u1 hu1 => ?_
  rw [isT_er, hu1, if_neg (by simp [isE])]
  have hlen : xs.length < u1.length + 1 := by
   have := congrArg List.length hu1
   rw [List.length_map] at this
   simp only [List.length_cons, List.length_append] at this
   have := tBysR_len xs
   omega
  refine (pbys_ok xs _ [] x _ es hu1 hlen (by simp at hl ⊢; omega) hb).and fun u2 hu2 => ?_
  exact (symbol_ok hu2).and fun u3 hu3 => PR.ok hu3
/-- a group as the parser makes it -/
structure GrpP (d : Nd) : Prop extends GrpOk d where
 kind : d.kind = 2
 z : d.win = 0 ∧ d.off = 0 ∧ d.num = 0 ∧ d.den = 0
 k0 : d.fn ≠ 4 → d.k = 0
 name : d.name = ⟨#[]⟩
 ms : d.ms = []
 bysb : bysB d.bys = true
 len : d.bys.length ≤ 8
theorem group_ok {en : Int} {d : Nd} {t : Tree} {ex : List Tok → Res Tree} {ts : List Tok} {es tt : List ETok} (h : ts.map er = (if d.fn = 4 then [eS [40], eN d.k, eS [41]] else []) ++ (tBys d.bys ++ (eS [40] :: (tt ++ eS [41] :: es)))) (hd : GrpP d)
  (hex : ∀ us, us.map er = tt ++ eS [41] :: es → PR (ex us) t (eS [41] :: es)) : PR (groupM en ex d.fn ts) (.node d [t]) es := by
 unfold groupM
 refine (gK_ok h hd.k hd.k0).and fun u1 hu1 => (gBy_ok hu1 hd.len hd.bysb (by simp [isE])).and fun u2 hu2 => ?_
 unfold gKidM
 have hkid : PR (andR (symbolM en sOpen u2) fun _ ts1 => andR (ex ts1) fun t ts2 => andR (symbolM en sShut ts2) fun _ ts3 => .ok (t, ts3)) t es :=
  (symbol_ok hu2).and fun u3 hu3 => (hex u3 hu3).and fun u4 hu4 => (symbol_ok hu4).and fun u5 hu5 => PR.ok hu5
 refine hkid.and fun u3 hu3 => ?_
 obtain ⟨kd, fn, wi, of, k, nu, de, na, ms, bys⟩ := d
 have h1 := hd.kind; have h2 := hd.z; have h3 := hd.name; have h4 := hd.ms
 simp only at h1 h2 h3 h4
 obtain ⟨rfl, rfl, rfl, rfl⟩ := h2
 subst h1 h3 h4
 exact PR.ok hu3
end
end Go.Proofs.YtkdojgkiclndfaaGreatDoor
