/- Plain laws for PayEnds (no program in sight): a pay of which one call, or one run, is known exactly; and how such a change lies in rows of its own. -/
import Derived.Test.YtlcolpnniipgbaaDoorLawT1
namespace Go.Proofs.YtlcolpnniipgbaaDoor
open Go.RowKit Go.Hav
def setSh (p : PayD) (i : Nat) (c : Ca) (s : Sp) : PayD := { p with calls := p.calls.set i { c with sh := s } }
theorem loF_congr {p x : PayD} {run who : Int} (h : ∀ f : Int, f ≠ who → calledS x f run = calledS p f run) (k : Int) : ∀ (n : Nat) (f : Int), loF x run who k n f = loF p run who k n f ∧ hiF x run who k n f = hiF p run who k n f := by
  intro n
  induction n with
  | zero => intro f; exact ⟨rfl, rfl⟩
  | succ n ih =>
    intro f
    have a := ih (f + 1)
    rw [loF, hiF, loF, hiF, a.1, a.2]
    by_cases e : f = who
    · simp only [if_pos e, and_self]
    · simp only [if_neg e, h f e, and_self]
theorem allS_congr {p x : PayD} {run who : Int} (hp : x.people = p.people) (h : ∀ f : Int, f ≠ who → calledS x f run = calledS p f run) : allS x run who = allS p run who := by
  unfold allS
  rw [hp, (loF_congr h 0 _ 0).1, (loF_congr h 0 _ 0).2]
section
variable {p : PayD}
theorem stands_setSh {cs : List Ca} {i : Nat} {c : Ca} (hc : cs[i]? = some c) (s : Sp) (who run : Int) : ∀ k, standsF (cs.set i { c with sh := s }) who run k = standsF cs who run k := by
  have hi : i < cs.length := (List.getElem?_eq_some_iff.1 hc).1
  intro k
  induction k with
  | zero => rfl
  | succ k ih =>
    simp only [standsF]
    rw [ih]
    by_cases e : i = k
    · subst e
      rw [List.getElem?_set_self hi, hc]
    · rw [List.getElem?_set_ne e]
theorem standsI_setSh {i : Nat} {c : Ca} (hc : p.calls[i]? = some c) (s : Sp) (who run : Int) : standsI (setSh p i c s) who run = standsI p who run := by
  unfold standsI
  rw [show (setSh p i c s).calls = p.calls.set i { c with sh := s } from rfl, stands_setSh hc, List.length_set]
theorem called_setSh {i : Nat} {c : Ca} (hc : p.calls[i]? = some c) (s : Sp) (who run : Int) : calledS (setSh p i c s) who run = if standsI p who run = i then s else calledS p who run := by
  have hi : i < p.calls.length := (List.getElem?_eq_some_iff.1 hc).1
  unfold calledS
  rw [standsI_setSh hc, show (setSh p i c s).calls = p.calls.set i { c with sh := s } from rfl]
  by_cases h : standsI p who run < 0
  · rw [if_pos h, if_pos h, if_neg (by omega)]
  · rw [if_neg h, if_neg h]
    by_cases e : standsI p who run = i
    · rw [if_pos e, e, Int.toNat_natCast, List.getElem?_set_self hi]
    · rw [if_neg e, List.getElem?_set_ne (by omega)]
theorem stands_call {who run : Int} {i : Nat} (hs : standsI p who run = i) : ∃ c, p.calls[i]? = some c ∧ c.who = who ∧ c.run = run ∧ c.struck = false := by
  have h := (standsF_lt p.calls who run p.calls.length).2.2
  unfold standsI at hs
  rw [hs] at h
  obtain ⟨c, h1, h2⟩ := h (by omega)
  rw [Int.toNat_natCast] at h1
  exact ⟨c, h1, h2⟩
theorem called_of {who run : Int} {i : Nat} (hs : standsI p who run = i) {c : Ca} (hc : p.calls[i]? = some c) : calledS p who run = c.sh := by
  unfold calledS
  rw [hs, if_neg (by omega), Int.toNat_natCast, hc]
theorem payB_setSh {i : Nat} {c : Ca} (h : payB p = true) (hc : p.calls[i]? = some c) {n m : Int} (n0 : 0 ≤ n) (n1 : n ≤ m) (m1 : m ≤ 100) : payB (setSh p i c ⟨n, m⟩) = true := by
  simp only [payB, headB, Bool.and_eq_true, decide_eq_true_eq, List.all_eq_true] at h ⊢
  obtain ⟨⟨⟨⟨⟨⟨⟨⟨⟨⟨h1, h2⟩, h3⟩, h4⟩, h5⟩, h6⟩, h7⟩, h8⟩, h9⟩, h10⟩, h11⟩ := h
  refine ⟨⟨⟨⟨⟨⟨⟨⟨⟨⟨h1, h2⟩, ?_⟩, h4⟩, h5⟩, h6⟩, h7⟩, h8⟩, fun d hd => ?_⟩, h10⟩, h11⟩
  · show (p.calls.set i _).length ≤ 12
    rw [List.length_set]; exact h3
  · rcases List.mem_or_eq_of_mem_set hd with h | rfl
    · exact h9 d h
    · have := h9 c (List.mem_of_getElem? hc)
      simp only [callB, Bool.and_eq_true] at this ⊢
      exact ⟨this.1, spanB_iff.2 ⟨n0, n1, m1⟩⟩
theorem wrong_setSh {who run : Int} {i : Nat} {c : Ca} (hv : payB p = true) (ht : wrongI p = 0) (w0 : 0 ≤ who) (w1 : who < p.people) (r0 : 0 ≤ run) (r1 : run < p.runs.length) (hs : standsI p who run = i) (hc : p.calls[i]? = some c) {n : Int} (n0 : c.sh.lo ≤ n) (n1 : n ≤ c.sh.hi) :
    wrongI (setSh p i c ⟨n, n⟩) = 0 ↔ (sheepS p who run).lo ≤ n ∧ n ≤ (sheepS p who run).hi := by
  obtain ⟨c', hc', k1, k2, k3⟩ := stands_call hs
  obtain rfl : c' = c := Option.some.inj (hc'.symm.trans hc)
  have hcs := called_of hs hc
  have hb := calledS_ok hv who run
  rw [hcs] at hb
  have hv' : payB (setSh p i c' ⟨n, n⟩) = true := payB_setSh hv hc (by omega) (Int.le_refl _) (by omega)
  have other : ∀ f r : Int, ¬ (f = who ∧ r = run) → calledS (setSh p i c' ⟨n, n⟩) f r = calledS p f r := fun f r h => by
    rw [called_setSh hc, if_neg]
    intro e
    obtain ⟨d, hd, d1, d2, _⟩ := stands_call e
    obtain rfl : d = c' := Option.some.inj (hd.symm.trans hc)
    exact h ⟨by rw [← d1, k1], by rw [← d2, k2]⟩
  have here : calledS (setSh p i c' ⟨n, n⟩) who run = ⟨n, n⟩ := by rw [called_setSh hc, if_pos hs]
  have ha : allS (setSh p i c' ⟨n, n⟩) run who = allS p run who := allS_congr rfl (fun f hf => other f run (fun h => hf h.1))
  have hw := allS_who hv' run who w0 w1
  rw [ha, here] at hw
  have hrun : ∀ r, runS (setSh p i c' ⟨n, n⟩) r = runS p r := fun _ => rfl
  have key : okRun (setSh p i c' ⟨n, n⟩) run.toNat = true ↔ (sheepS p who run).lo ≤ n ∧ n ≤ (sheepS p who run).hi := by
    have e : (run.toNat : Int) = run := by omega
    rw [okRun_iff hv' run.toNat (by show run.toNat < p.runs.length; omega), e, hw.1, hw.2, hrun]
    simp only [sheepS, hcs]
    omega
  rw [← key, wrongI_zero]
  constructor
  · intro h
    exact h run.toNat (by show run.toNat < p.runs.length; omega)
  · intro h r hr
    by_cases e : r = run.toNat
    · rw [e]; exact h
    · have hr' : r < p.runs.length := hr
      have hok := (wrongI_zero p).1 ht r hr'
      rw [okRun_iff hv' r hr, hrun, allS_congr (p := p) (x := setSh p i c' ⟨n, n⟩) rfl (fun f _ => other f r (fun h => e (by omega)))]
      exact (okRun_iff hv r hr').1 hok
theorem runS_setRun_self {r : Nat} (hr : r < p.runs.length) (s : Sp) : runS (setRun p r s) r = s := by
  have hlt : r < (p.runs.set r s).length := by simpa using hr
  simp only [runS, setRun, Int.toNat_natCast]
  rw [List.getElem?_eq_getElem hlt]
  simp
theorem runS_setRun_ne {r m : Nat} (h : r ≠ m) (s : Sp) : runS (setRun p r s) m = runS p m := by
  simp only [runS, setRun, Int.toNat_natCast]
  rw [List.getElem?_set_ne h]
theorem allS_setRun (r : Nat) (s : Sp) (run but : Int) : allS (setRun p r s) run but = allS p run but := by
  unfold allS
  show (⟨loF (setRun p r s) run but 0 p.people.toNat 0, hiF (setRun p r s) run but 0 p.people.toNat 0⟩ : Sp) = _
  rw [(loF_setRun p r s run but 0 p.people.toNat 0).1, (loF_setRun p r s run but 0 p.people.toNat 0).2]
theorem wrong_setRun {r : Nat} (hv : payB p = true) (ht : wrongI p = 0) (hr : r < p.runs.length) {n : Int} (n0 : 0 ≤ n) (n1 : n ≤ 400) :
    wrongI (setRun p r ⟨n, n⟩) = 0 ↔ (allS p r (-1)).lo ≤ n ∧ n ≤ (allS p r (-1)).hi := by
  have hv' := setRun_payB hv r n n0 n1
  have hl : (setRun p r ⟨n, n⟩).runs.length = p.runs.length := by simp [setRun]
  have key : okRun (setRun p r ⟨n, n⟩) r = true ↔ (allS p r (-1)).lo ≤ n ∧ n ≤ (allS p r (-1)).hi := by
    rw [okRun_iff hv' r (by omega), runS_setRun_self hr, allS_setRun]
    simp only
    omega
  rw [← key, wrongI_zero]
  constructor
  · intro h; exact h r (by omega)
  · intro h m hm
    by_cases e : m = r
    · rw [e]; exact h
    · rw [okRun_iff hv' m hm, runS_setRun_ne (by omega), allS_setRun]
      exact (okRun_iff hv m (by omega)).1 ((wrongI_zero p).1 ht m (by omega))
/-- A span that is asked for is known, or not, as there is a truth. -/
theorem span_err {b : Bool} (hv : payB p = true) (hb : b = true) (s : Sp) : ∃ s', spanR (checkE p b true) s = (s', if wrongI p = 0 then 0 else 10) := by
  by_cases h : wrongI p = 0
  · exact ⟨s, by rw [spanR_ok hv h hb, if_pos h]⟩
  · exact ⟨⟨0, 0⟩, by rw [spanR_clash hv h hb, if_neg h]⟩
end
section
variable {people rate bill : Int} {ra ca da pa : Option Addr} {rl rc cl cc dl dc pl pc : Nat} {p : PayD}
/-- Two cells of an own row are stored. -/
theorem own_set2 {w : World} {B n c g : Nat} {e : TypeId} {sz : Nat} {α : Type} {f : α → List Value} (hsz : ∀ x, (f x).length = sz) {l : List α} (h : w.ownsRow B e sz (.slice (some ⟨g, 0, none⟩) n c) n (l.flatMap f)) {k i : Nat} {x x' x'' : α} {u u' : Value} (hi : i + 1 < sz) (hx : l[k]? = some x) (hf : f x' = (f x).set i u) (hf' : f x'' = (f x').set (i + 1) u') :
    ((w.setCell ⟨g, k * sz + i, none⟩ u).setCell ⟨g, k * sz + i + 1, none⟩ u').ownsRow B e sz (.slice (some ⟨g, 0, none⟩) n c) n ((l.set k x'').flatMap f) := by
  have h1 := own_set h (k * sz + i) u
  rw [flat_set (f := f) hsz (i := i) (u := u) (by omega) hx hf] at h1
  have h2 := own_set h1 (k * sz + (i + 1)) u'
  have hk : k < l.length := (List.getElem?_eq_some_iff.1 hx).1
  rw [flat_set (f := f) hsz (i := i + 1) (u := u') hi (List.getElem?_set_self hk) hf', List.set_set] at h2
  exact h2
theorem OwnPay.setSh {w : World} {B g1 c1 g2 c2 g3 c3 g4 c4 N : Nat} {c : Ca} {n m : Int} (h : OwnPay w B p g1 c1 g2 c2 g3 c3 g4 c4) (hc : p.calls[N]? = some c) :
    OwnPay ((w.setCell ⟨g2, N * 5 + 2, none⟩ (.int .i64 n)).setCell ⟨g2, N * 5 + 3, none⟩ (.int .i64 m)) B (setSh p N c ⟨n, m⟩) g1 c1 g2 c2 g3 c3 g4 c4 := by
  have k1 := own_ne h.runs h.calls (by decide)
  have k3 := own_ne h.days h.calls (by decide)
  have k4 := own_ne h.paid h.calls (by decide)
  have e : (Go.Proofs.YtlcolpnniipgbaaDoor.setSh p N c ⟨n, m⟩).calls.length = p.calls.length := by unfold Go.Proofs.YtlcolpnniipgbaaDoor.setSh; rw [List.length_set]
  refine ⟨own_far (own_far h.runs k1 _ _) k1 _ _, ?_, own_far (own_far h.days k3 _ _) k3 _ _, own_far (own_far h.paid k4 _ _) k4 _ _⟩
  rw [e]
  exact own_set2 (f := caF) caF_len h.calls (i := 2) (x' := { c with sh := ⟨n, c.sh.hi⟩ }) (x'' := { c with sh := ⟨n, m⟩ }) (by decide) hc rfl rfl
theorem OwnPay.setRun {w : World} {B g1 c1 g2 c2 g3 c3 g4 c4 N : Nat} {c : Sp} {n m : Int} (h : OwnPay w B p g1 c1 g2 c2 g3 c3 g4 c4) (hc : p.runs[N]? = some c) :
    OwnPay ((w.setCell ⟨g1, N * 2, none⟩ (.int .i64 n)).setCell ⟨g1, N * 2 + 1, none⟩ (.int .i64 m)) B (setRun p N ⟨n, m⟩) g1 c1 g2 c2 g3 c3 g4 c4 := by
  have k1 := own_ne h.calls h.runs (by decide)
  have k3 := own_ne h.days h.runs (by decide)
  have k4 := own_ne h.paid h.runs (by decide)
  have e : (Go.Proofs.YtlcolpnniipgbaaDoor.setRun p N ⟨n, m⟩).runs.length = p.runs.length := by unfold Go.Proofs.YtlcolpnniipgbaaDoor.setRun; rw [List.length_set]
  refine ⟨?_, own_far (own_far h.calls k1 _ _) k1 _ _, own_far (own_far h.days k3 _ _) k3 _ _, own_far (own_far h.paid k4 _ _) k4 _ _⟩
  rw [e]
  exact own_set2 (f := spF) spF_len h.runs (i := 0) (x' := ⟨n, c.hi⟩) (x'' := ⟨n, m⟩) (by decide) hc rfl rfl
/-- What the store of a span in an own row asks. -/
theorem OwnPay.callCells {w : World} {B g1 c1 g2 c2 g3 c3 g4 c4 N : Nat} {c : Ca} (h : OwnPay w B p g1 c1 g2 c2 g3 c3 g4 c4) (hc : p.calls[N]? = some c) :
    w.cell? ⟨g2, N * 5 + 2, none⟩ = some (.int .i64 c.sh.lo) ∧ w.cell? ⟨g2, N * 5 + 3, none⟩ = some (.int .i64 c.sh.hi) ∧ (∀ j, w.frozen? ⟨g2, j, none⟩ = false) ∧ g2 < w.heap.size ∧ B ≤ g2 := by
  obtain ⟨cur, hb, hB, _⟩ := own_blk h.calls
  obtain ⟨b, off, e, _, _, _, h2, h3, _⟩ := RdCalls.of_g (RdG.of_own caF_len (by decide) h.calls (Nat.le_refl _) rfl) N c hc
  obtain ⟨rfl, rfl⟩ : g2 = b ∧ 0 = off := by simpa using e
  rw [Nat.zero_add] at h2 h3
  exact ⟨h2, h3, fun j => hb.frozen j, hb.lt, hB⟩
theorem OwnPay.runCells {w : World} {B g1 c1 g2 c2 g3 c3 g4 c4 N : Nat} {c : Sp} (h : OwnPay w B p g1 c1 g2 c2 g3 c3 g4 c4) (hc : p.runs[N]? = some c) :
    w.cell? ⟨g1, N * 2, none⟩ = some (.int .i64 c.lo) ∧ w.cell? ⟨g1, N * 2 + 1, none⟩ = some (.int .i64 c.hi) ∧ (∀ j, w.frozen? ⟨g1, j, none⟩ = false) ∧ g1 < w.heap.size ∧ B ≤ g1 := by
  obtain ⟨cur, hb, hB, _⟩ := own_blk h.runs
  obtain ⟨b, off, e, _, h2, h3⟩ := RdSpans.of_g (RdG.of_own spF_len (by decide) h.runs (Nat.le_refl _) rfl) N c hc
  obtain ⟨rfl, rfl⟩ : g1 = b ∧ 0 = off := by simpa using e
  rw [Nat.zero_add] at h2 h3
  exact ⟨h2, h3, fun j => hb.frozen j, hb.lt, hB⟩
end
end Go.Proofs.YtlcolpnniipgbaaDoor
