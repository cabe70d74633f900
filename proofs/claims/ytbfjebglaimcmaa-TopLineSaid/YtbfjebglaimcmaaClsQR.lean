/- What of all bales can be wrong, as the walk computes it: spans as whole numbers, none as a span that is empty. No condition. The walk of the classer's all: how many fleeces of all bales can be wrong; its end. Conditions: the line is valid, it is in memory. -/
import Derived.Test.YtbfjebglaimcmaaClsP
import Derived.Test.YtbfjebglaimcmaaClsIH
namespace Go.Proofs.Ytbfjebglaimcmaa
def encO : Option (Nat × Nat) → Int × Int
  | none => (65536, -1)
  | some s => (s.1, s.2)
def joinI (a b : Int × Int) : Int × Int := (min a.1 b.1, max a.2 b.2)
def SmallO (a : Option (Nat × Nat)) : Prop := ∀ s, a = some s → s.1 ≤ 60000
theorem joinI_enc {a b : Option (Nat × Nat)} (ha : SmallO a) (hb : SmallO b) : joinI (encO a) (encO b) = encO (joinO a b) := by
  cases a with
  | none =>
    cases b with
    | none => rfl
    | some s =>
      have := hb s rfl
      simp only [encO, joinI, joinO, Prod.mk.injEq]
      omega
  | some s =>
    have h1 := ha s rfl
    cases b with
    | none =>
      simp only [encO, joinI, joinO, Prod.mk.injEq]
      omega
    | some t =>
      simp only [encO, joinI, joinO, Prod.mk.injEq]
      omega
theorem joinO_none (a : Option (Nat × Nat)) : joinO a none = a := by cases a <;> rfl
theorem joinO_assoc (a b c : Option (Nat × Nat)) : joinO (joinO a b) c = joinO a (joinO b c) := by
  cases a with
  | none => rfl
  | some a =>
    cases b with
    | none => rfl
    | some b =>
      cases c with
      | none => rfl
      | some c =>
        simp only [joinO, Option.some.injEq, Prod.mk.injEq]
        omega
theorem joinO_small {a b : Option (Nat × Nat)} (ha : SmallO a) (hb : SmallO b) : SmallO (joinO a b) := by
  intro s h
  cases a with
  | none => exact hb s h
  | some a =>
    have h1 := ha a rfl
    cases b with
    | none => cases h; exact h1
    | some b =>
      cases h
      show min a.1 b.1 ≤ 60000
      omega
theorem foldO_small {f : Nat → Option (Nat × Nat)} : ∀ k, (∀ j, j < k → SmallO (f j)) → SmallO (foldO f k)
  | 0, _ => fun s h => by cases h
  | k + 1, h => joinO_small (foldO_small k (fun j hj => h j (by omega))) (h k (by omega))
/-- What a bale ahead adds. -/
def fT (d : Nat) (rest : List Bl) (w left v : Nat) : Option (Nat × Nat) := if rest = [] ∨ (v ≤ w + d ∧ w ≤ v + d) then (totC d rest v left).map (fun s => (s.1 + w, s.2 + w)) else none
theorem totC_cons (d : Nat) (b : Bl) (rest : List Bl) (w m : Nat) : totC d (b :: rest) w m = if m < ownC b true w then none else foldO (fT d rest w (m - ownC b true w)) 31 := rfl
theorem foldO_le {f : Nat → Option (Nat × Nat)} {B : Nat} : ∀ k, (∀ j s, j < k → f j = some s → s.1 ≤ B) → ∀ s, foldO f k = some s → s.1 ≤ B
  | 0, _, s, h => by cases h
  | k + 1, hf, s, h => by
    rw [foldO] at h
    cases h1 : foldO f k with
    | none =>
      rw [h1] at h
      exact hf k s (by omega) h
    | some a =>
      have ha := foldO_le k (fun j s hj => hf j s (by omega)) a h1
      cases h2 : f k with
      | none => rw [h1, h2] at h; cases h; exact ha
      | some b =>
        rw [h1, h2] at h
        cases h
        show min a.1 b.1 ≤ B
        omega
theorem tot_le (d : Nat) : ∀ (l : List Bl) (w m : Nat) (s : Nat × Nat), w ≤ 30 → totC d l w m = some s → s.1 ≤ 30 * l.length
  | [], w, m, s, _, h => by
    unfold totC at h
    split at h
    · cases h; exact Nat.zero_le _
    · cases h
  | b :: rest, w, m, s, hw, h => by
    rw [totC_cons] at h
    split at h
    · cases h
    · refine foldO_le 31 (fun j t hj ht => ?_) s h
      unfold fT at ht
      split at ht
      · cases hq : totC d rest j (m - ownC b true w) with
        | none => rw [hq] at ht; cases ht
        | some q =>
          have := tot_le d rest j _ q (by omega) hq
          rw [hq] at ht
          cases ht
          simp only [List.length_cons]
          omega
      · cases ht
theorem tot_small {d : Nat} {l : List Bl} {w m : Nat} (hl : l.length ≤ 6) (hw : w ≤ 30) : SmallO (totC d l w m) := fun s h => by
  have := tot_le d l w m s hw h
  have : 30 * l.length ≤ 180 := by omega
  omega
theorem fT_small {d : Nat} {l : List Bl} {w left v : Nat} (hl : l.length ≤ 6) (hv : v ≤ 30) (hw : w ≤ 30) : SmallO (fT d l w left v) := fun s h => by
  unfold fT at h
  split at h
  · cases hq : totC d l v left with
    | none => rw [hq] at h; cases h
    | some q =>
      have := tot_le d l v left q hv hq
      rw [hq] at h
      cases h
      have : 30 * l.length ≤ 180 := by omega
      show q.1 + w ≤ 60000
      omega
  · cases h
theorem foldO_hi {f : Nat → Option (Nat × Nat)} {B : Nat} : ∀ k, (∀ j s, j < k → f j = some s → s.2 ≤ B) → ∀ s, foldO f k = some s → s.2 ≤ B
  | 0, _, s, h => by cases h
  | k + 1, hf, s, h => by
    rw [foldO] at h
    cases h1 : foldO f k with
    | none =>
      rw [h1] at h
      exact hf k s (by omega) h
    | some a =>
      have ha := foldO_hi k (fun j s hj => hf j s (by omega)) a h1
      cases h2 : f k with
      | none => rw [h1, h2] at h; cases h; exact ha
      | some b =>
        have hb := hf k b (by omega) h2
        rw [h1, h2] at h
        cases h
        show max a.2 b.2 ≤ B
        omega
theorem tot_hi (d : Nat) : ∀ (l : List Bl) (w m : Nat) (s : Nat × Nat), w ≤ 30 → totC d l w m = some s → s.2 ≤ 30 * l.length
  | [], w, m, s, _, h => by
    unfold totC at h
    split at h
    · cases h; exact Nat.zero_le _
    · cases h
  | b :: rest, w, m, s, hw, h => by
    rw [totC_cons] at h
    split at h
    · cases h
    · refine foldO_hi 31 (fun j t hj ht => ?_) s h
      unfold fT at ht
      split at ht
      · cases hq : totC d rest j (m - ownC b true w) with
        | none => rw [hq] at ht; cases ht
        | some q =>
          have := tot_hi d rest j _ q (by omega) hq
          rw [hq] at ht
          cases ht
          simp only [List.length_cons]
          omega
      · cases ht
theorem fT_enc {d : Nat} {l : List Bl} {w left v : Nat} (hl : l.length ≤ 6) (hv : v ≤ 30) (hw : w ≤ 30) : 0 ≤ (encO (fT d l w left v)).1 ∧ (encO (fT d l w left v)).1 ≤ 65536 ∧ -1 ≤ (encO (fT d l w left v)).2 ∧ (encO (fT d l w left v)).2 ≤ 65536 := by
  have hz : (0 : Int) ≤ 65536 ∧ (65536 : Int) ≤ 65536 ∧ (-1 : Int) ≤ -1 ∧ (-1 : Int) ≤ 65536 := by decide
  unfold fT
  split
  · cases hq : totC d l v left with
    | none => exact hz
    | some q =>
      have h1 := tot_le d l v left q hv hq
      have h2 := tot_hi d l v left q hv hq
      have : 30 * l.length ≤ 180 := by omega
      simp only [Option.map_some, encO]
      omega
  · exact hz
/-- The table so far, by where its spans lie: of the first k bales. -/
def tabL (c : Cls) (k : Nat) (e : Nat) : Int × Int := if k = 0 then (0, 0) else encO (totC c.drift (c.bl.take k).reverse (e / 7) (e % 7))
theorem rev_take {c : Cls} {k : Nat} {b : Bl} (h : c.bl[k]? = some b) : (c.bl.take (k + 1)).reverse = b :: (c.bl.take k).reverse := by
  rw [List.take_add_one, h]
  simp
theorem tabL_succ {c : Cls} {k : Nat} {b : Bl} (h : c.bl[k]? = some b) (e : Nat) : tabL c (k + 1) e = encO (if e % 7 < ownC b true (e / 7) then none else foldO (fT c.drift (c.bl.take k).reverse (e / 7) (e % 7 - ownC b true (e / 7))) 31) := by
  unfold tabL
  rw [if_neg (by omega), rev_take h, totC_cons]
theorem rest_nil {c : Cls} {k : Nat} (hk : k ≤ c.bl.length) : (c.bl.take k).reverse = [] ↔ k = 0 := by
  rw [List.reverse_eq_nil_iff]
  constructor
  · intro h
    have := congrArg List.length h
    simp at this
    rcases this with h | h
    · exact h
    · rw [h] at hk; simpa using hk
  · rintro rfl; rfl
/-- A way that is passed over adds nothing; another one its span, and what is wrong here. -/
theorem fT_skip0 {c : Cls} {v w left : Nat} (h : 0 < v ∨ 0 < left) : fT c.drift (c.bl.take 0).reverse w left v = none := by
  unfold fT
  rw [if_pos (.inl rfl)]
  show (totC c.drift [] v left).map _ = none
  unfold totC
  rw [if_neg (by omega)]
  rfl
theorem fT_go0 {c : Cls} {w : Nat} : encO (fT c.drift (c.bl.take 0).reverse w 0 0) = ((w : Int), (w : Int)) := by
  unfold fT
  rw [if_pos (.inl rfl)]
  show encO ((totC c.drift [] 0 0).map _) = _
  unfold totC
  rw [if_pos ⟨rfl, rfl⟩]
  simp [encO]
theorem fT_far {c : Cls} {k v w left : Nat} (hk : 0 < k) (hl : k ≤ c.bl.length) (h : ¬ (v ≤ w + c.drift ∧ w ≤ v + c.drift)) : fT c.drift (c.bl.take k).reverse w left v = none := by
  unfold fT
  rw [if_neg]
  rintro (h1 | h1)
  · have := (rest_nil hl).1 h1; omega
  · exact h h1
theorem fT_near {c : Cls} {k v w left : Nat} (hk : 0 < k) (hleft : left < 7) (h : v ≤ w + c.drift ∧ w ≤ v + c.drift) :
    ((tabL c k (v * 7 + left)).2 < 0 → fT c.drift (c.bl.take k).reverse w left v = none) ∧ (¬ (tabL c k (v * 7 + left)).2 < 0 → encO (fT c.drift (c.bl.take k).reverse w left v) = ((tabL c k (v * 7 + left)).1 + w, (tabL c k (v * 7 + left)).2 + w)) := by
  unfold tabL fT
  rw [if_neg (by omega), if_pos (.inr h), show (v * 7 + left) / 7 = v by omega, show (v * 7 + left) % 7 = left by omega]
  cases hq : totC c.drift (c.bl.take k).reverse v left with
  | none => exact ⟨fun _ => rfl, fun h => absurd (show ((-1 : Int) < 0) by decide) h⟩
  | some s =>
    refine ⟨fun h => ?_, fun _ => ?_⟩
    · simp only [encO] at h; omega
    · simp [encO]
/-- The cells of such a table. -/
def tabH (T : Nat → Int × Int) (j : Nat) : Int := if j % 2 = 0 then (T (j / 2)).1 else (T (j / 2)).2
def putT (T : Nat → Int × Int) (e : Nat) (s : Int × Int) (e' : Nat) : Int × Int := if e' = e then s else T e'
theorem tabH_put (T : Nat → Int × Int) (e : Nat) (p q : Int) (j : Nat) : (if j = e * 2 + 1 then q else if j = e * 2 then p else tabH T j) = tabH (putT T e (p, q)) j := by
  unfold tabH putT
  by_cases h1 : j = e * 2 + 1
  · subst h1
    rw [if_pos rfl, if_neg (by omega), if_pos (by omega)]
  · rw [if_neg h1]
    by_cases h2 : j = e * 2
    · subst h2
      rw [if_pos rfl, if_pos (by omega), if_pos (by omega)]
    · rw [if_neg h2, if_neg (show ¬ j / 2 = e by omega)]
/-- The table that is being made: the first N spans are known. -/
def upT (F G : Nat → Int × Int) (N : Nat) (e : Nat) : Int × Int := if e < N then F e else G e
theorem upT_put (F G : Nat → Int × Int) (N : Nat) (s : Int × Int) (h : s = F N) (e : Nat) : putT (upT F G N) N s e = upT F G (N + 1) e := by
  unfold putT upT
  by_cases h1 : e = N
  · subst h1; rw [if_pos rfl, if_pos (by omega), h]
  · rw [if_neg h1]
    by_cases h2 : e < N
    · rw [if_pos h2, if_pos (by omega)]
    · rw [if_neg h2, if_neg (by omega)]
theorem putT_put (T : Nat → Int × Int) (e : Nat) (s t : Int × Int) (x : Nat) : putT (putT T e s) e t x = putT T e t x := by
  unfold putT
  by_cases h : x = e
  · rw [if_pos h, if_pos h]
  · rw [if_neg h, if_neg h, if_neg h]
theorem putT_at (T : Nat → Int × Int) (e : Nat) (s : Int × Int) : putT T e s e = s := if_pos rfl
/-- All spans together, row by row. -/
def accO (c : Cls) (w m : Nat) : Option (Nat × Nat) := joinO (foldO (fun w => foldO (fun m => totC c.drift c.bl.reverse w m) (c.mis + 1)) w) (foldO (fun m => totC c.drift c.bl.reverse w m) m)
theorem accO_zero (c : Cls) : accO c 0 0 = none := rfl
theorem accO_row (c : Cls) (w : Nat) : accO c (w + 1) 0 = accO c w (c.mis + 1) := by
  unfold accO
  rw [show foldO (fun m => totC c.drift c.bl.reverse (w + 1) m) 0 = none from rfl, joinO_none]
  rfl
theorem accO_succ (c : Cls) (w m : Nat) : accO c w (m + 1) = joinO (accO c w m) (totC c.drift c.bl.reverse w m) := by
  unfold accO
  rw [joinO_assoc]
  rfl
theorem accO_all (c : Cls) : accO c 31 0 = allC c := by
  unfold accO
  rw [show foldO (fun m => totC c.drift c.bl.reverse 31 m) 0 = none from rfl, joinO_none]
  rfl
theorem accO_small {c : Cls} (hl : c.bl.length ≤ 6) {w m : Nat} (hw : w ≤ 30) : SmallO (accO c w m) :=
  joinO_small (foldO_small w (fun j hj => foldO_small _ (fun i _ => tot_small (by simpa using hl) (by omega)))) (foldO_small m (fun j _ => tot_small (by simpa using hl) hw))
theorem tabL_all {c : Cls} (h : 0 < c.bl.length) {w m : Nat} (hm : m < 7) : tabL c c.bl.length (w * 7 + m) = encO (totC c.drift c.bl.reverse w m) := by
  unfold tabL
  rw [if_neg (by omega), List.take_of_length_le (Nat.le_refl _), show (w * 7 + m) / 7 = w by omega, show (w * 7 + m) % 7 = m by omega]
end Go.Proofs.Ytbfjebglaimcmaa
namespace Go.Proofs.Ytbfjebglaimcmaa
open Go.RowKit Go.Hav Go.Sq
attribute [local go_sem] Oper.semAt_some
/-- Numbers in cells. -/
def rowA (N : Nat) (H : Nat → Int) : Array Value := ((List.range N).map fun i => Value.int .i64 (H i)).toArray
theorem rowA_size (N : Nat) (H : Nat → Int) : (rowA N H).size = N := by simp [rowA]
theorem rowA_get (N : Nat) (H : Nat → Int) {i : Nat} (h : i < N) : (rowA N H)[i]? = some (.int .i64 (H i)) := by
  unfold rowA
  rw [List.getElem?_toArray, List.getElem?_map, List.getElem?_range h]
  rfl
theorem rowA_set (N : Nat) (H : Nat → Int) {i : Nat} (h : i < N) (v : Int) : (rowA N H).setIfInBounds i (.int .i64 v) = rowA N (fun j => if j = i then v else H j) := by
  unfold rowA
  rw [List.setIfInBounds_toArray]
  congr 1
  refine List.ext_getElem? fun j => ?_
  rw [List.getElem?_set, List.getElem?_map, List.getElem?_map]
  by_cases e : i = j
  · subst e
    rw [if_pos rfl, List.getElem?_range h]
    simp [h]
  · rw [if_neg e]
    by_cases hj : j < N
    · rw [List.getElem?_range hj]
      simp [show ¬ j = i from fun h => e h.symm]
    · rw [List.getElem?_eq_none (by simp; omega)]
      rfl
theorem rowA_congr {N : Nat} {f g : Nat → Int} (h : ∀ i, f i = g i) : rowA N f = rowA N g := by rw [funext h]
theorem rowA_one (N : Nat) (f : Nat → Int) : (rowA N f).all (·.oneCell') = true := by
  unfold rowA
  rw [List.all_toArray, List.all_map]
  exact List.all_eq_true.2 fun i _ => rfl
/-- A table in cells. -/
def totA (T : Nat → Int × Int) : Array Value := rowA 434 (tabH T)
theorem totA_lo (T : Nat → Int × Int) {e : Nat} (h : e < 217) : (totA T)[e * 2]? = some (.int .i64 (T e).1) := by
  unfold totA
  rw [rowA_get _ _ (by omega)]
  unfold tabH
  rw [if_pos (by omega), show e * 2 / 2 = e by omega]
theorem totA_hi (T : Nat → Int × Int) {e : Nat} (h : e < 217) : (totA T)[e * 2 + 1]? = some (.int .i64 (T e).2) := by
  unfold totA
  rw [rowA_get _ _ (by omega)]
  unfold tabH
  rw [if_neg (by omega), show (e * 2 + 1) / 2 = e by omega]
theorem totA_put (T : Nat → Int × Int) {e : Nat} (h : e < 217) (p q : Int) : ((totA T).setIfInBounds (e * 2) (.int .i64 p)).setIfInBounds (e * 2 + 1) (.int .i64 q) = totA (putT T e (p, q)) := by
  unfold totA
  rw [rowA_set _ _ (by omega), rowA_set _ _ (by omega)]
  exact rowA_congr fun j => tabH_put T e p q j
theorem totA_congr {S T : Nat → Int × Int} (h : ∀ e, S e = T e) : totA S = totA T := by rw [funext h]
theorem totA_size (T : Nat → Int × Int) : (totA T).size = 434 := rowA_size _ _
set_option maxRecDepth 100000 in
theorem zero170 (w : World) : (zeroValue 170).run Try.prog w = .ok (.agg (totA fun _ => (0, 0))) w := by kernel_rfl
theorem size170 : (Try.prog.info? 170).map (·.size) = some 434 := by kernel_rfl
def spI (s : Int × Int) : Array Value := #[.int .i64 s.1, .int .i64 s.2]
section
set_option maxRecDepth 100000 in
set_option maxHeartbeats 800000 in
theorem joined_any (a0 a1 b0 b1 : Int) (w : World) : Calls Try.prog 130 #[.agg #[.int .i64 a0, .int .i64 a1], .agg #[.int .i64 b0, .int .i64 b1]] w fun e w' => e = .returned (.agg #[.int .i64 (min a0 b0), .int .i64 (max a1 b1)]) ∧ Below w.heap.size w w' := by
  have hmin := minC_run
  have hmax := maxC_run
  go_enter Try.func130, Try.ntmps130
  go_wp2
  have hk := ((Blk.new_ (w := (w.alloc (.cells #[.int .i64 a0, .int .i64 a1] 29)).alloc (.cells #[.int .i64 b0, .int .i64 b1] 29)) (g := w.heap.size + 1 + 1) (by simp) 29 #[.int .i64 (min a0 b0), .int .i64 (max a1 b1)]))
  have e0 := hk.cell 0
  have e1 := hk.cell 1
  simp at e0 e1
  refine bodyPost_ret (v := .agg #[.int .i64 (min a0 b0), .int .i64 (max a1 b1)]) (by simp [results, Try.results130, go_sem, e0, e1]) rfl ⟨rfl, (by repeat (first | exact Below.refl _ _ | assumption | refine Below.drew ?_ | refine below_drewN ?_ _ | refine Below.alloc ?_ (by (try simp) <;> omega) _ | refine Below.setCell ?_ (by (try simp) <;> omega) _ | refine Below.trans ?_ (Below.mono (by assumption) (by (try simp) <;> omega))))⟩
variable {w V : World} {d r bc g3 g5 gR : Nat} {ba : Option Addr} {c : Cls}
set_option maxRecDepth 100000 in
theorem slice168 (g off m : Nat) (h : m ≤ 7) (w : World) : (Instr.sliceAt 168 (.pointer (some ⟨g, off, none⟩)) none (some (.int .i64 (m : Int))) none).run Try.prog w = .ok (.slice (some ⟨g, off, none⟩) m 7) w := by
  have h1 : (m : Int) ≤ 7 := by omega
  unfold Instr.sliceAt
  go_simp
noncomputable def alK (n : Nat) : Code := dropC n (Try.f93.body.getD .skip)
def AllPost (w : World) (c : Cls) (e : Ending) (w' : World) : Prop := e = .returned (.agg (spI (encO (allC c)))) ∧ Below w.heap.size w w'
set_option maxRecDepth 100000 in
set_option maxHeartbeats 6400000 in
theorem all5 (hT : Blk V d 158 (tabC ba bc c r)) (hok : ClsOk c) (h3 : Blk V g3 29 (spI (65536, -1))) (hR : Blk V gR 29 #[.int .i64 0, .int .i64 0]) (h5 : Blk V g5 170 (totA (tabL c c.bl.length))) (hw : w.heap.size ≤ gR) (hb : Below w.heap.size w V) {s1 s6 s7 s8 s9 s10 s11 s12 s13 s14 s15 s16 s17 s18 s19 s20 s21 s22 s23 s24 s25 s26 s27 s28 s29 s30 s31 s32 s33 s34 s35 s36 s37 s38 s39 s40 s41 s42 s43 s44 s45 s46 s47 s48 s49 s50 s51 s52 s53 s54 s55 s56 s57 s58 s59 s60 s61 s62 s63 s64 s65 s66 s67 s68 s69 s70 s71 s72 s73 s74 s75 s76 s77 s78 s79 s80 s81 s82 s83 s84 s85 s86 s87 s88 s89 s90 s91 s92 s93 s94 s95 s96 s97 s98 s99 s100 s101 s102 s103 s104 s105 s106 s107 s108 s109 s110 s111 s112 s113 s114 s115 s116 s117 s118 s119 s120 s121 s122 s123 s124 s125 s126 s127 s128 s129 s130 s131 s132 s133 s134 s135 s136 s137 s138 s139 s140 s141 s142 s143 s144 s145 s146 s147 : Value} :
    Code.wp Try.prog (alK 5) (bodyPost Try.prog Try.f93 (AllPost w c)) ⟨((.pointer (some ⟨d, 0, none⟩))::s1::(.pointer (some ⟨gR, 0, none⟩))::(.pointer (some ⟨g3, 0, none⟩))::(.func (.func 130) #[] #[])::(.pointer (some ⟨g5, 0, none⟩))::s6::s7::s8::s9::s10::s11::s12::s13::s14::s15::s16::s17::s18::s19::s20::s21::s22::s23::s24::s25::s26::s27::s28::s29::s30::s31::s32::s33::s34::s35::s36::s37::s38::s39::s40::s41::s42::s43::s44::s45::s46::s47::s48::s49::s50::s51::s52::s53::s54::s55::s56::s57::s58::s59::s60::s61::s62::s63::s64::s65::s66::s67::s68::s69::s70::s71::s72::s73::s74::s75::s76::s77::s78::s79::s80::s81::s82::s83::s84::s85::s86::s87::s88::s89::s90::s91::s92::s93::s94::s95::s96::s97::s98::s99::s100::s101::s102::s103::s104::s105::s106::s107::s108::s109::s110::s111::s112::s113::s114::s115::s116::s117::s118::s119::s120::s121::s122::s123::s124::s125::s126::s127::s128::s129::s130::s131::s132::s133::s134::s135::s136::s137::s138::s139::s140::s141::s142::s143::s144::s145::s146::s147::[]).toArray, []⟩ V := by
  have HT := Lib.hid hT
  have HOK := Lib.hid hok
  have HR := Lib.hid hR
  have H5 := Lib.hid h5
  have HB := Lib.hid hb
  have c0 := h3.cell 0
  have c1 := h3.cell 1
  have l3 := h3.lt
  simp [spI] at c0 c1
  clear hT hok h3 hR h5 hb
  conv => arg 2; whnf
  go_upto_region 30 with (fail)
  obtain ⟨Z, hZ⟩ : ∃ x, x = V.alloc (.cells #[.int .i64 65536, .int .i64 (-1)] 29) := ⟨_, rfl⟩
  have HA : Hid (Blk Z V.heap.size 29 (spI (encO (accO c 0 0)))) := by rw [hZ]; exact Blk.new V 29 _
  have HBZ : Hid (Below V.heap.size V Z) := by show Below _ _ _; rw [hZ]; exact (Below.refl _ _).alloc (Nat.le_refl _) _
  rw [← hZ]
  clear hZ c0 c1
  obtain ⟨ga, hga⟩ : ∃ x, V.heap.size = x := ⟨_, rfl⟩
  have HTZ := Lib.hid (HT.out.below HBZ.out HT.out.lt)
  have HRZ := Lib.hid (HR.out.below HBZ.out HR.out.lt)
  have H5Z := Lib.hid (H5.out.below HBZ.out H5.out.lt)
  have HN : Hid (d < ga ∧ gR < ga ∧ g5 < ga ∧ w.heap.size ≤ ga) := by rw [← hga]; exact ⟨HT.out.lt, HR.out.lt, H5.out.lt, HB.out.size⟩
  have HBW : Hid (Below w.heap.size w Z) := HB.out.trans (HBZ.out.mono HB.out.size)
  rw [hga] at HA ⊢
  clear hga l3 HT HR H5 HB HBZ
  go_upto_region 31 with (fail)
  go_loopw [124] (fun i wr => ∃ k : Nat, k ≤ 31 ∧ i = .int .i64 k ∧ Blk wr ga 29 (spI (encO (accO c k 0))) ∧ Turn (fun b => b = ga) Z wr) (fun i _ => 31 - (intOf i).toNat)
  case atStart => exact ⟨0, by omega, rfl, HA.out, Turn.refl _ _⟩
  case round =>
    obtain ⟨k, hk, rfl, ha, ht⟩ := hrel
    have HAR := Lib.hid ha
    have HTR := Lib.hid ht
    have HDR := Lib.hid (HTZ.out.turn ht (by have := HN.out; omega))
    have H5R := Lib.hid (H5Z.out.turn ht (by have := HN.out; omega))
    clear ha ht
    by_cases hlt : k < 31
    · have hki : (k : Int) < 31 := by omega
      have d3 := HDR.out.cell 3
      have dl := HDR.out.lt
      have hmi := HOK.out.mi
      obtain ⟨M, hM⟩ : ∃ M, c.mis + 1 = M := ⟨_, rfl⟩
      have hwr : IntKind.i64.wrap ((c.mis : Int) + 1) = (M : Nat) := (IntWalk.i64_in _ (by omega)).trans (by omega)
      have hsl := slice168 g5 (k * 14) M (by omega)
      have HMM := Lib.hid hM
      have l5 := H5R.out.lt
      simp [tabC] at d3
      go_upto_region 33 with (fail)
      refine wp_region_havoc [(0,false),(1,false),(2,false),(3,false),(4,false),(5,false),(6,false),(7,false),(8,false),(9,false),(10,false)] [] (fun _ _ => False) (by kernel_rfl) (by kernel_rfl) (fun _ _ _ _ h => h.elim) ?_
      (apply hav_same (by simp only [List.getElem?_toArray, List.getElem?_cons_zero]; rfl) (by kernel_rfl); (focus (intro wv hgv _; have hcv : ∀ b o, b < _ → wv.cell? ⟨b, o, none⟩ = _ := fun b o hb => Below.cell hgv (p := ⟨b, o, none⟩) hb; (try go_simp); try rfl; done)); simp only [Act.put, List.setIfInBounds_toArray, List.set_cons_succ, List.set_cons_zero])
      iterate 10 (apply hav_same (by simp only [List.getElem?_toArray, List.getElem?_cons_succ, List.getElem?_cons_zero]; rfl) (by kernel_rfl); (focus (intro wv hgv _; have hcv : ∀ b o, b < _ → wv.cell? ⟨b, o, none⟩ = _ := fun b o hb => Below.cell hgv (p := ⟨b, o, none⟩) hb; (try go_simp); try rfl; done)); simp only [Act.put, List.setIfInBounds_toArray, List.set_cons_succ, List.set_cons_zero])
      refine hav_end (fun w1 hgw1 _ => ?_); simp only [List.filterMap]; have hcw1 : ∀ b o, b < _ → w1.cell? ⟨b, o, none⟩ = _ := fun b o hb => Below.cell hgw1 (p := ⟨b, o, none⟩) hb; have hfw1 : ∀ b o, b < _ → w1.frozen? ⟨b, o, none⟩ = _ := fun b o hb => Below.frozen hgw1 (p := ⟨b, o, none⟩) hb; have hzw1 := Below.size hgw1; (try simp at hzw1)
      have HB1 := Lib.hid hgw1
      have HA1 := Lib.hid (HAR.out.below hgw1 HAR.out.lt)
      have H51 := Lib.hid (H5R.out.below hgw1 H5R.out.lt)
      have HTR1 : Hid (Turn (fun b => b = ga) Z w1) := HTR.out.trans (Turn.of_below hgw1)
      clear hgw1 hcw1 hfw1 d3 dl
      have HM7 : Hid (M ≤ 7) := by show _ ≤ _; omega
      clear hwr hsl hM
      go_upto_region 34 with (fail)
      go_loopw [137] (fun i wz => ∃ j : Nat, j ≤ M ∧ i = .int .i64 j ∧ Blk wz ga 29 (spI (encO (accO c k j))) ∧ Turn (fun b => b = ga) Z wz) (fun i _ => M - (intOf i).toNat)
      case atStart => exact ⟨0, by omega, rfl, HA1.out, HTR1.out⟩
      case round =>
        obtain ⟨j, hj, rfl, ha, ht⟩ := hrel
        have HAY := Lib.hid ha
        have HTY := Lib.hid ht
        have H5Y := Lib.hid (H5Z.out.turn ht (by have := HN.out; omega))
        clear ha ht
        by_cases hjl : j < M
        · have hjm : (j : Int) < M := by omega
          have hj7 : j < 7 := by have := HM7.out; omega
          have HE := Lib.hid (tabL_all (c := c) (by have := HOK.out.l1; omega) (w := k) hj7)
          have e0 := (H5Y.out.cell ((k * 7 + j) * 2)).trans (totA_lo _ (by omega))
          have e1 := (H5Y.out.cell ((k * 7 + j) * 2 + 1)).trans (totA_hi _ (by omega))
          rw [HE.out, show (k * 7 + j) * 2 = k * 14 + j * 2 by omega] at e0 e1
          have a0 := HAY.out.cell 0
          have a1 := HAY.out.cell 1
          have al := HAY.out.lt
          have l5 := H5Y.out.lt
          simp [spI] at a0 a1
          have HJ : Hid (joinI (encO (accO c k j)) (encO (totC c.drift c.bl.reverse k j)) = encO (accO c k (j + 1))) := by
            show _ = _
            rw [accO_succ]
            exact joinI_enc (accO_small HOK.out.l6 (by omega)) (tot_small (by simpa using HOK.out.l6) (by omega))
          obtain ⟨p, hp⟩ : ∃ p, encO (accO c k j) = p := ⟨_, rfl⟩
          obtain ⟨q, hq⟩ : ∃ q, encO (totC c.drift c.bl.reverse k j) = q := ⟨_, rfl⟩
          obtain ⟨p0, p1⟩ := p
          obtain ⟨q0, q1⟩ := q
          rw [hp] at a0 a1 HJ HAY
          rw [hq] at e0 e1 HJ
          simp only at a0 a1 e0 e1
          clear hp hq
          go_wp2_with fail
          refine (joined_any p0 p1 q0 q1 _).mono ?_
          rintro e w2 ⟨rfl, hb2⟩
          have HB2 : Hid (Below wr.heap.size wr w2) := ((Below.refl _ _).alloc (Nat.le_refl _) _).trans (hb2.mono (by simp))
          have HA2 := Lib.hid (HAY.out.below HB2.out HAY.out.lt)
          have HT2 : Hid (Turn (fun b => b = ga) Z w2) := HTY.out.trans (Turn.of_below HB2.out)
          clear hb2 a0 a1 al e0 e1 l5
          have a0 := HA2.out.cell 0
          have a1 := HA2.out.cell 1
          have f0 := HA2.out.frozen 0
          have f1 := HA2.out.frozen 1
          have al := HA2.out.lt
          simp [spI] at a0 a1
          go_wp2
          go_roundw
          case rel =>
            refine ⟨j + 1, by omega, by go_num, ?_, (HT2.out.trans (Turn.set _ _ (fun _ => rfl))).trans (Turn.set _ _ (fun _ => rfl))⟩
            rw [← HJ.out]
            have hz := (HA2.out.set_ 0 (.int .i64 (min p0 q0))).set_ 1 (.int .i64 (max p1 q1))
            simpa [spI, joinI] using hz
          case measure => simp [intOf]; omega
        · obtain rfl : M = j := by omega
          go_wp2
          go_roundw
          case rel => exact ⟨k + 1, by omega, by go_num, by rw [accO_row, HMM.out]; exact HAY.out, HTY.out⟩
          case measure => simp [intOf]; omega
    · obtain rfl : k = 31 := by omega
      rw [accO_all] at HAR
      obtain ⟨p, hp⟩ : ∃ p, encO (allC c) = p := ⟨_, rfl⟩
      have HP := Lib.hid hp
      obtain ⟨p0, p1⟩ := p
      have HRR := Lib.hid (HRZ.out.turn HTR.out (by have := HN.out; omega))
      rw [hp] at HAR
      have a0 := HAR.out.cell 0
      have a1 := HAR.out.cell 1
      have al := HAR.out.lt
      have r0 := HRR.out.cell 0
      have r1 := HRR.out.cell 1
      have f0 := HRR.out.frozen 0
      have f1 := HRR.out.frozen 1
      have rl := HRR.out.lt
      simp [spI] at a0 a1 r0 r1
      have hk := (HRR.out.set_ 0 (.int .i64 p0)).set_ 1 (.int .i64 p1)
      have e0 := hk.cell 0
      have e1 := hk.cell 1
      simp at e0 e1
      have HBF : Hid (Below w.heap.size w wr) := HBW.out.trans (HTR.out.below (B := w.heap.size) HBW.out.size (fun b e => by have := HN.out; omega))
      clear hp hk
      go_wp2
      refine bodyPost_ret (v := .agg #[.int .i64 p0, .int .i64 p1]) (by simp [results, Try.results93, go_sem, e0, e1]) rfl ⟨?_, setCell_below (setCell_below HBF.out hw _ _) hw _ _⟩
      rw [HP.out]
      rfl
end
end Go.Proofs.Ytbfjebglaimcmaa
