/- Plain: the depths of rivers without looks: which are no less. -/
import Derived.Test.YtiodmkokpfgkkaaPlainA
namespace Go.Proofs.Ytiodmkokpfgkkaa
theorem depthP_hull {R : Riv} (h : truthsA R ≠ []) (day : Nat) : IsHull ((truthsA R).map (·.at_ day)) (depthP R day) := hullP_is (fun e => h (List.map_eq_nil_iff.1 e))
/-- The least depth is no more if each truth has one that is no deeper. -/
theorem depth_lo {R S : Riv} (hR : truthsA R ≠ []) (hS : truthsA S ≠ []) {day : Nat} (h : ∀ t ∈ truthsA R, ∃ u ∈ truthsA S, u.at_ day ≤ t.at_ day) : (depthP S day).1 ≤ (depthP R day).1 := by
  obtain ⟨t, ht, e⟩ := List.mem_map.1 (depthP_hull hR day).lo
  obtain ⟨u, hu, hle⟩ := h t ht
  have := (depthP_hull hS day).le _ (List.mem_map.2 ⟨u, hu, rfl⟩)
  omega
theorem depth_hi {R S : Riv} (hR : truthsA R ≠ []) (hS : truthsA S ≠ []) {day : Nat} (h : ∀ u ∈ truthsA S, ∃ t ∈ truthsA R, u.at_ day ≤ t.at_ day) : (depthP S day).2 ≤ (depthP R day).2 := by
  obtain ⟨u, hu, e⟩ := List.mem_map.1 (depthP_hull hS day).hi
  obtain ⟨t, ht, hle⟩ := h u hu
  have := (depthP_hull hR day).ge _ (List.mem_map.2 ⟨t, ht, rfl⟩)
  omega
theorem atF_mono {d d' b b' n n' : Nat} {ds rs ds' rs' : Nat → Nat} (hd : d ≤ d') (hb : b' ≤ b) (hr : ∀ day, riseN ds rs day n ≤ riseN ds' rs' day n') : ∀ day, atF d b n ds rs day ≤ atF d' b' n' ds' rs' day
  | 0 => by rw [atF, atF]; exact hd
  | k + 1 => by
    have h1 := atF_mono hd hb hr k
    have h2 := hr (k + 1)
    rw [atF, atF]
    omega
theorem riseN_mono {ds rs rs' : Nat → Nat} {day : Nat} : ∀ n, (∀ i, i < n → rs i ≤ rs' i) → riseN ds rs day n ≤ riseN ds rs' day n
  | 0, _ => Nat.le_refl _
  | n + 1, h => by
    have h1 := riseN_mono (ds := ds) (day := day) n fun i hi => h i (by omega)
    have h2 := h n (by omega)
    rw [riseN, riseN]
    split <;> omega
/-- All but the k-th. -/
def skipF (k : Nat) (f : Nat → Nat) (i : Nat) : Nat := if i < k then f i else f (i + 1)
theorem riseN_skip {ds rs : Nat → Nat} {day k : Nat} : ∀ n, k ≤ n → riseN (skipF k ds) (skipF k rs) day n ≤ riseN ds rs day (n + 1)
  | 0, h => by rw [riseN]; omega
  | n + 1, h => by
    by_cases e : k = n + 1
    · have : riseN (skipF k ds) (skipF k rs) day (n + 1) = riseN ds rs day (n + 1) := riseN_ext _ fun i hi => by unfold skipF; rw [if_pos (by omega), if_pos (by omega)]; exact ⟨rfl, rfl⟩
      rw [this, riseN.eq_def ds rs day (n + 1 + 1)]
      simp only
      omega
    · have h1 := riseN_skip (ds := ds) (rs := rs) (day := day) n (by omega : k ≤ n)
      rw [riseN, riseN.eq_def ds rs day (n + 1 + 1)]
      simp only
      rw [show skipF k ds n = ds (n + 1) by unfold skipF; rw [if_neg (by omega)], show skipF k rs n = rs (n + 1) by unfold skipF; rw [if_neg (by omega)]]
      omega
/-- Without looks all that lies in the spans is a truth. -/
theorem truth_free {R : Riv} (hl : R.lk = []) {d b : Nat} {ds rs : Nat → Nat} (h1 : R.fall.lo ≤ b) (h2 : b ≤ R.fall.hi) (h3 : R.depth.lo ≤ d) (h4 : d ≤ R.depth.hi) (h5 : InSp R.fr ds rs) : Tr.of d b R.fr.length ds rs ∈ truthsA R := by
  refine truth_of (fun l hm => by rw [hl] at hm; cases hm) h1 h2 ⟨h3, h4, h5, fun day _ => ?_⟩
  unfold fits
  rw [hl]
  rfl
theorem truth_in {R : Riv} (hl : R.lk = []) {t : Tr} (ht : t ∈ truthsA R) : R.fall.lo ≤ t.by_ ∧ t.by_ ≤ R.fall.hi ∧ R.depth.lo ≤ t.d ∧ t.d ≤ R.depth.hi ∧ InSp R.fr t.dsF t.rsF ∧ ∀ day, t.at_ day = atF t.d t.by_ R.fr.length t.dsF t.rsF day := by
  obtain ⟨e1, _, h1, h2, h3⟩ := (mem_truthsP (fun l hm => by rw [hl] at hm; cases hm)).1 ht
  exact ⟨h1, h2, h3.lo, h3.hi, h3.sp, fun day => by rw [Tr.at_, e1]⟩
theorem truths_free {R : Riv} (hl : R.lk = []) (hr : FrOk R) (h1 : R.fall.lo ≤ R.fall.hi) (h2 : R.depth.lo ≤ R.depth.hi) : truthsA R ≠ [] := by
  have h := truth_free hl (d := R.depth.lo) (b := R.fall.lo) (ds := fun i => ((R.fr[i]?).map (·.days.lo)).getD 0) (rs := fun i => ((R.fr[i]?).map (·.rise.lo)).getD 0) (Nat.le_refl _) h1 (Nat.le_refl _) h2 (fun i f hf => by
    have := hr f (List.mem_of_getElem? hf)
    simp only [hf, Option.map_some, Option.getD_some]
    omega)
  exact fun e => by rw [e] at h; cases h
/-- What a list of freshes without the k-th holds. -/
theorem erase_at {α : Type} {l : List α} {k i : Nat} : (l.eraseIdx k)[i]? = if i < k then l[i]? else l[i + 1]? := List.getElem?_eraseIdx
theorem skip_sp {fr : List NFr} {ds rs : Nat → Nat} {k : Nat} (h : InSp fr ds rs) : InSp (fr.eraseIdx k) (skipF k ds) (skipF k rs) := fun i f hf => by
  rw [erase_at] at hf
  unfold skipF
  split at hf
  · rename_i hi; rw [if_pos hi, if_pos hi]; exact h i f hf
  · rename_i hi; rw [if_neg hi, if_neg hi]; exact h (i + 1) f hf
/-- A number put in at k. -/
def putF (k v : Nat) (f : Nat → Nat) (i : Nat) : Nat := if i < k then f i else if i = k then v else f (i - 1)
theorem skip_put {k v : Nat} {f : Nat → Nat} : skipF k (putF k v f) = f := by
  funext i
  unfold skipF putF
  split
  · rfl
  · rw [if_neg (by omega), if_neg (by omega)]; rfl
theorem put_sp {fr : List NFr} {ds rs : Nat → Nat} {k : Nat} {g : NFr} (hg : fr[k]? = some g) (h1 : g.days.lo ≤ g.days.hi) (h2 : g.rise.lo ≤ g.rise.hi) (h : InSp (fr.eraseIdx k) ds rs) : InSp fr (putF k g.days.lo ds) (putF k g.rise.lo rs) := fun i f hf => by
  unfold putF
  by_cases e1 : i < k
  · rw [if_pos e1, if_pos e1]
    exact h i f (by rw [erase_at, if_pos e1]; exact hf)
  · rw [if_neg e1, if_neg e1]
    by_cases e2 : i = k
    · subst e2
      rw [hg] at hf
      injection hf with hf
      subst hf
      rw [if_pos rfl, if_pos rfl]
      exact ⟨Nat.le_refl _, h1, Nat.le_refl _, h2⟩
    · rw [if_neg e2, if_neg e2]
      exact h (i - 1) f (by rw [erase_at, if_neg (by omega), show i - 1 + 1 = i by omega]; exact hf)
/-- A river without looks, with a fresh less, is no deeper. -/
theorem falls_less {R : Riv} (hl : R.lk = []) (hr : FrOk R) (h1 : R.fall.lo ≤ R.fall.hi) (h2 : R.depth.lo ≤ R.depth.hi) {k : Nat} (hk : k < R.fr.length) (day : Nat) :
    (depthP { R with fr := R.fr.eraseIdx k } day).1 ≤ (depthP R day).1 ∧ (depthP { R with fr := R.fr.eraseIdx k } day).2 ≤ (depthP R day).2 := by
  obtain ⟨S, hS⟩ : ∃ S, S = { R with fr := R.fr.eraseIdx k } := ⟨_, rfl⟩
  rw [← hS]
  have hSl : S.lk = [] := by rw [hS]; exact hl
  have hSr : FrOk S := fun f hf => hr f (by rw [hS] at hf; exact List.mem_of_mem_eraseIdx hf)
  have hSf : S.fall = R.fall := by rw [hS]
  have hSd : S.depth = R.depth := by rw [hS]
  have hn : R.fr.length = S.fr.length + 1 := by rw [hS]; show _ = (R.fr.eraseIdx k).length + 1; rw [List.length_eraseIdx, if_pos hk]; omega
  have eR := truths_free hl hr h1 h2
  have eS := truths_free hSl hSr (by rw [hSf]; exact h1) (by rw [hSd]; exact h2)
  obtain ⟨g, hg⟩ : ∃ g, R.fr[k]? = some g := ⟨_, List.getElem?_eq_getElem hk⟩
  have hgo := hr g (List.mem_of_getElem? hg)
  refine ⟨depth_lo eR eS fun t ht => ?_, depth_hi eR eS fun u hu => ?_⟩
  · obtain ⟨a1, a2, a3, a4, a5, a6⟩ := truth_in hl ht
    have hsp : InSp S.fr (skipF k t.dsF) (skipF k t.rsF) := by rw [hS]; exact skip_sp a5
    refine ⟨_, truth_free hSl (by rw [hSf]; exact a1) (by rw [hSf]; exact a2) (by rw [hSd]; exact a3) (by rw [hSd]; exact a4) hsp, ?_⟩
    rw [Tr.of_at, a6, hn]
    exact atF_mono (Nat.le_refl _) (Nat.le_refl _) (fun day => riseN_skip _ (by omega)) day
  · obtain ⟨a1, a2, a3, a4, a5, a6⟩ := truth_in hSl hu
    have hsp : InSp R.fr (putF k g.days.lo u.dsF) (putF k g.rise.lo u.rsF) := put_sp hg (by omega) (by omega) (by rw [hS] at a5; exact a5)
    refine ⟨_, truth_free hl (by rw [← hSf]; exact a1) (by rw [← hSf]; exact a2) (by rw [← hSd]; exact a3) (by rw [← hSd]; exact a4) hsp, ?_⟩
    rw [Tr.of_at, a6, hn]
    refine atF_mono (Nat.le_refl _) (Nat.le_refl _) (fun day => ?_) day
    have h := riseN_skip (ds := putF k g.days.lo u.dsF) (rs := putF k g.rise.lo u.rsF) (day := day) (k := k) S.fr.length (by omega)
    rwa [skip_put, skip_put] at h
/-- A river without looks, of which a fresh brings more, is no shallower. -/
theorem falls_more {R : Riv} (hl : R.lk = []) (hr : FrOk R) (h1 : R.fall.lo ≤ R.fall.hi) (h2 : R.depth.lo ≤ R.depth.hi) {k : Nat} {f g : NFr} (hf : R.fr[k]? = some f) (e1 : g.days = f.days) (e2 : f.rise.lo ≤ g.rise.lo) (e3 : f.rise.hi ≤ g.rise.hi) (e4 : g.rise.lo ≤ g.rise.hi) (day : Nat) :
    (depthP R day).1 ≤ (depthP { R with fr := R.fr.set k g } day).1 ∧ (depthP R day).2 ≤ (depthP { R with fr := R.fr.set k g } day).2 := by
  obtain ⟨S, hS⟩ : ∃ S, S = { R with fr := R.fr.set k g } := ⟨_, rfl⟩
  rw [← hS]
  have hk : k < R.fr.length := (List.getElem?_eq_some_iff.1 hf).1
  have hSl : S.lk = [] := by rw [hS]; exact hl
  have hat : ∀ i, S.fr[i]? = if i = k then some g else R.fr[i]? := fun i => by
    rw [hS]
    show (R.fr.set k g)[i]? = _
    rw [List.getElem?_set]
    by_cases e : k = i
    · subst e; simp [hk]
    · rw [if_neg e, if_neg (fun h => e h.symm)]
  have hfo := hr f (List.mem_of_getElem? hf)
  have hSr : FrOk S := fun x hx => by
    obtain ⟨i, hi⟩ := List.getElem?_of_mem hx
    rw [hat] at hi
    split at hi
    · injection hi with hi; subst hi; rw [e1]; exact ⟨hfo.1, hfo.2.1, e4⟩
    · exact hr x (List.mem_of_getElem? hi)
  have hSf : S.fall = R.fall := by rw [hS]
  have hSd : S.depth = R.depth := by rw [hS]
  have hn : S.fr.length = R.fr.length := by rw [hS]; show (R.fr.set k g).length = _; rw [List.length_set]
  have eR := truths_free hl hr h1 h2
  have eS := truths_free hSl hSr (by rw [hSf]; exact h1) (by rw [hSd]; exact h2)
  refine ⟨depth_lo eS eR fun u hu => ?_, depth_hi eS eR fun t ht => ?_⟩
  · obtain ⟨a1, a2, a3, a4, a5, a6⟩ := truth_in hSl hu
    have hkk := a5 k g (by rw [hat, if_pos rfl])
    have hsp : InSp R.fr u.dsF (fun i => if i = k then min (u.rsF k) f.rise.hi else u.rsF i) := fun i x hx => by
      by_cases e : i = k
      · subst e
        rw [hf] at hx
        injection hx with hx
        subst hx
        simp only [if_true]
        rw [e1] at hkk
        omega
      · simp only [if_neg e]
        exact a5 i x (by rw [hat, if_neg e]; exact hx)
    refine ⟨_, truth_free hl (by rw [← hSf]; exact a1) (by rw [← hSf]; exact a2) (by rw [← hSd]; exact a3) (by rw [← hSd]; exact a4) hsp, ?_⟩
    rw [Tr.of_at, a6, hn]
    refine atF_mono (Nat.le_refl _) (Nat.le_refl _) (fun day => riseN_mono _ fun i _ => ?_) day
    by_cases e : i = k
    · subst e; simp only [if_true]; omega
    · simp only [if_neg e]; exact Nat.le_refl _
  · obtain ⟨a1, a2, a3, a4, a5, a6⟩ := truth_in hl ht
    have hkk := a5 k f hf
    have hsp : InSp S.fr t.dsF (fun i => if i = k then max (t.rsF k) g.rise.lo else t.rsF i) := fun i x hx => by
      rw [hat] at hx
      by_cases e : i = k
      · subst e
        rw [if_pos rfl] at hx
        injection hx with hx
        subst hx
        simp only [if_true]
        rw [e1]
        omega
      · rw [if_neg e] at hx
        simp only [if_neg e]
        exact a5 i x hx
    refine ⟨_, truth_free hSl (by rw [hSf]; exact a1) (by rw [hSf]; exact a2) (by rw [hSd]; exact a3) (by rw [hSd]; exact a4) hsp, ?_⟩
    rw [Tr.of_at, a6, hn]
    refine atF_mono (Nat.le_refl _) (Nat.le_refl _) (fun day => riseN_mono _ fun i _ => ?_) day
    by_cases e : i = k
    · subst e; simp only [if_true]; omega
    · simp only [if_neg e]; exact Nat.le_refl _
/-- A river without looks that falls more slowly is no shallower. -/
theorem falls_slow {R : Riv} (hl : R.lk = []) (hr : FrOk R) (h1 : R.fall.lo ≤ R.fall.hi) (h2 : R.depth.lo ≤ R.depth.hi) (h0 : 0 < R.fall.lo) (day : Nat) :
    (depthP R day).1 ≤ (depthP { R with fall := ⟨R.fall.lo - 1, R.fall.hi - 1⟩ } day).1 ∧ (depthP R day).2 ≤ (depthP { R with fall := ⟨R.fall.lo - 1, R.fall.hi - 1⟩ } day).2 := by
  obtain ⟨S, hS⟩ : ∃ S, S = { R with fall := ⟨R.fall.lo - 1, R.fall.hi - 1⟩ } := ⟨_, rfl⟩
  rw [← hS]
  have hSl : S.lk = [] := by rw [hS]; exact hl
  have hSr : FrOk S := by rw [hS]; exact hr
  have hSf : S.fall.lo = R.fall.lo - 1 ∧ S.fall.hi = R.fall.hi - 1 := by rw [hS]; exact ⟨rfl, rfl⟩
  have hSd : S.depth = R.depth := by rw [hS]
  have hSfr : S.fr = R.fr := by rw [hS]
  have eR := truths_free hl hr h1 h2
  have eS := truths_free hSl hSr (by omega) (by rw [hSd]; exact h2)
  refine ⟨depth_lo eS eR fun u hu => ?_, depth_hi eS eR fun t ht => ?_⟩
  · obtain ⟨a1, a2, a3, a4, a5, a6⟩ := truth_in hSl hu
    refine ⟨_, truth_free hl (b := u.by_ + 1) (by omega) (by omega) (by rw [← hSd]; exact a3) (by rw [← hSd]; exact a4) (by rw [← hSfr]; exact a5), ?_⟩
    rw [Tr.of_at, a6, hSfr]
    exact atF_mono (Nat.le_refl _) (by omega) (fun _ => Nat.le_refl _) day
  · obtain ⟨a1, a2, a3, a4, a5, a6⟩ := truth_in hl ht
    refine ⟨_, truth_free hSl (b := t.by_ - 1) (by omega) (by omega) (by rw [hSd]; exact a3) (by rw [hSd]; exact a4) (by rw [hSfr]; exact a5), ?_⟩
    rw [Tr.of_at, a6, hSfr]
    exact atF_mono (Nat.le_refl _) (by omega) (fun _ => Nat.le_refl _) day
/-- What is left of a depth. -/
def leftF (d b : Nat) : Nat → Nat
  | 0 => d
  | k + 1 => leftF d b k - b
theorem atF_left (d b : Nat) (ds rs : Nat → Nat) : ∀ day, atF d b 0 ds rs day = leftF d b day
  | 0 => rfl
  | k + 1 => by rw [atF, leftF, atF_left d b ds rs k, riseN]; rfl
theorem left_mono {d d' b b' : Nat} (hd : d ≤ d') (hb : b' ≤ b) : ∀ day, leftF d b day ≤ leftF d' b' day
  | 0 => hd
  | k + 1 => by have := left_mono hd hb k; rw [leftF, leftF]; omega
/-- Without freshes and looks: what is left of both ends. -/
theorem falls_none {R : Riv} (hl : R.lk = []) (hf : R.fr = []) (h1 : R.fall.lo ≤ R.fall.hi) (h2 : R.depth.lo ≤ R.depth.hi) (day : Nat) :
    depthP R day = (leftF R.depth.lo R.fall.hi day, leftF R.depth.hi R.fall.lo day) := by
  have hr : FrOk R := fun f h => by rw [hf] at h; cases h
  have eR := truths_free hl hr h1 h2
  have hz : ∀ ds rs : Nat → Nat, InSp R.fr ds rs := fun _ _ i f h => by rw [hf] at h; simp at h
  have H := depthP_hull eR day
  have key : ∀ t ∈ truthsA R, leftF R.depth.lo R.fall.hi day ≤ t.at_ day ∧ t.at_ day ≤ leftF R.depth.hi R.fall.lo day := fun t ht => by
    obtain ⟨a1, a2, a3, a4, a5, a6⟩ := truth_in hl ht
    rw [a6, hf]
    show leftF _ _ _ ≤ atF _ _ 0 _ _ _ ∧ atF _ _ 0 _ _ _ ≤ _
    rw [atF_left]
    exact ⟨left_mono a3 a2 day, left_mono a4 a1 day⟩
  have m1 := truth_free hl (d := R.depth.lo) (b := R.fall.hi) h1 (Nat.le_refl _) (Nat.le_refl _) h2 (hz (fun _ => 0) (fun _ => 0))
  have m2 := truth_free hl (d := R.depth.hi) (b := R.fall.lo) (Nat.le_refl _) h1 h2 (Nat.le_refl _) (hz (fun _ => 0) (fun _ => 0))
  have p1 := H.le _ (List.mem_map.2 ⟨_, m1, rfl⟩)
  have p2 := H.ge _ (List.mem_map.2 ⟨_, m2, rfl⟩)
  rw [Tr.of_at, hf] at p1 p2
  simp only [List.length_nil] at p1 p2
  rw [atF_left] at p1 p2
  obtain ⟨t1, ht1, e1⟩ := List.mem_map.1 H.lo
  obtain ⟨t2, ht2, e2⟩ := List.mem_map.1 H.hi
  have k1 := (key t1 ht1).1
  have k2 := (key t2 ht2).2
  refine Prod.ext ?_ ?_
  · simp only; omega
  · simp only; omega
end Go.Proofs.Ytiodmkokpfgkkaa
