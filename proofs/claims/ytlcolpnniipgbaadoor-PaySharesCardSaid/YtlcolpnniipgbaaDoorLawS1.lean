/- Plain laws for PayShares: what the law asks of each share, and rows of truth values. -/
import Derived.Test.YtlcolpnniipgbaaDoorLawS0
import Derived.Test.YtlcolpnniipgbaaDoorCopiedA
namespace Go.Proofs.YtlcolpnniipgbaaDoor
open Go.RowKit Go.Hav
/-- The same pay with another bill. -/
def atBill (p : PayD) (b : Int) : PayD := { p with bill := b }
theorem payB_bill {p : PayD} (h : payB p = true) {b : Int} (h0 : 0 ≤ b) (h1 : b ≤ 10000) : payB (atBill p b) = true := by
  simp only [payB, headB, Bool.and_eq_true] at h ⊢
  obtain ⟨⟨⟨⟨⟨⟨⟨⟨⟨⟨k1, k2⟩, k3⟩, k4⟩, k5⟩, k6⟩, k7⟩, k8⟩, k9⟩, k10⟩, k11⟩ := h
  exact ⟨⟨⟨⟨⟨⟨⟨⟨⟨⟨k1, k2⟩, k3⟩, k4⟩, by rw [inB_iff]; exact ⟨h0, h1⟩⟩, k6⟩, k7⟩, k8⟩, k9⟩, k10⟩, k11⟩
/-- Who is rounded up, of the first k. -/
def upL (p : PayD) (all : Int) : Nat → List Bool
  | 0 => []
  | k + 1 => upL p all k ++ [decide (0 < all) && decide (p.bill * rv p.days k < rv (sharesR p) k * all)]
theorem upL_len (p : PayD) (all : Int) : ∀ k, (upL p all k).length = k := by
  intro k
  induction k with
  | zero => rfl
  | succ k ih => rw [upL, List.length_append, ih]; rfl
theorem upL_get (p : PayD) (all : Int) : ∀ n k, k < n → (upL p all n)[k]? = some (decide (0 < all) && decide (p.bill * rv p.days k < rv (sharesR p) k * all)) := by
  intro n
  induction n with
  | zero => intro k h; omega
  | succ n ih =>
    intro k h
    rw [upL]
    by_cases e : k = n
    · subst e
      rw [List.getElem?_append_right (by rw [upL_len]; omega), upL_len, Nat.sub_self]; rfl
    · rw [List.getElem?_append_left (by rw [upL_len]; omega)]
      exact ih k (by omega)
def boF (b : Bool) : List Value := [.bool b]
theorem boF_len (b : Bool) : (boF b).length = 1 := rfl
theorem news1 (w1 : World) (t : TypeId) (b : Bool) : ∀ j u, (boF b)[j]? = some u → (w1.alloc (.cells #[.bool b] t)).cell? ((⟨w1.heap.size, 0, none⟩ : Addr).add j) = some u := by
  intro j u hu
  have h0 := (Blk.new w1 t #[.bool b]).cell j
  rcases j with _ | j
  · simp [boF] at hu; subst hu; exact h0
  · simp [boF] at hu
theorem own_bools {w : World} {B e : Nat} {v : Value} {l : List Bool} (h : w.ownsRow B e 1 v l.length (l.flatMap boF)) (hl : 0 < l.length) :
    ∃ g cp, v = .slice (some ⟨g, 0, none⟩) l.length cp ∧ B ≤ g ∧ g < w.heap.size ∧ ∀ k b, l[k]? = some b → w.cell? ⟨g, k, none⟩ = some (.bool b) := by
  rcases h.2 with ⟨rfl, h0⟩ | ⟨g, cap, cur, rfl, hg, hh, hle, _⟩
  · omega
  · refine ⟨g, cap, rfl, hg, (Array.getElem?_eq_some_iff.1 hh).1, fun k b hk => ?_⟩
    obtain ⟨b', off', e1, _, hc⟩ := (RdG.of_own boF_len (by decide) h (Nat.le_refl _) rfl) k b hk
    obtain ⟨rfl, rfl⟩ : g = b' ∧ 0 = off' := by simpa using e1
    have := hc 0 _ rfl
    simpa using this
theorem Tryd.infoE4 : (Tryd.prog.info? 4).map (fun i => (i.zero, i.size, i.bytes)) = some (some (.bool false), 1, 1) := by kernel_rfl
theorem rv_some {l : List Int} {k : Nat} {c : Int} (h : l[k]? = some c) : rv l k = c := by unfold rv; rw [h]; rfl
/-- What the law asks of one share. -/
structure ShareOk (p : PayD) (all : Int) (k : Nat) (c S : Int) : Prop where
  s0 : 0 ≤ S
  s1 : S ≤ 10000
  x0 : 0 ≤ p.bill * c
  x1 : p.bill * c ≤ 100000
  a0 : 0 ≤ S * all
  a1 : S * all ≤ 400000
  zero : c = 0 → S = 0
  near : 0 < all → p.bill * c - all < S * all ∧ S * all < p.bill * c + all
theorem share_ok {p : PayD} (hv : payB p = true) {k : Nat} {c : Int} (hc : p.days[k]? = some c) : ShareOk p (sumF p.days p.days.length) k c (rv (sharesR p) k) := by
  have hk : k < p.days.length := (List.getElem?_eq_some_iff.1 hc).1
  have hb := payB_people hv
  have hr := payB_rate hv
  have hd := payB_day hv hc
  have hx := share_bd (bill := p.bill) (c := c) (by omega) (by omega) hd.1 hd.2
  have hs := sumF_bd (l := p.days) (fun k x h => payB_day hv h) p.days.length
  by_cases hz : sumF p.days p.days.length = 0
  · rw [sharesR_none hz, hz]
    exact ⟨by omega, by omega, hx.1, hx.2, by omega, by omega, fun _ => rfl, fun h => by omega⟩
  · obtain ⟨U, hU⟩ := sharesR_law hv hz
    generalize hall : sumF p.days p.days.length = all at *
    have ha : 0 < all := by omega
    have hval := hU.val k hk
    have hpos := hU.pos k hk
    rw [rv_some hc] at hval hpos
    have hn := share_near (x := p.bill * c) (all := all) (q := _) (r := _) (U := if U k = true then 1 else 0) ha rfl rfl (by
      by_cases h : U k = true
      · rw [if_pos h]; exact .inr ⟨rfl, hpos h⟩
      · rw [if_neg h]; exact .inl rfl)
    rw [← hval] at hn
    have q0 : 0 ≤ p.bill * c / all := Int.ediv_nonneg hx.1 (by omega)
    have s0 : 0 ≤ rv (sharesR p) k := by rw [hval]; split <;> omega
    have a0 : 0 ≤ rv (sharesR p) k * all := Int.mul_nonneg s0 (by omega)
    have hbound : rv (sharesR p) k ≤ 10000 := by
      -- each part is at most the bill
      have hca : c ≤ all := by
        have : ∀ n, k < n → c ≤ sumF p.days n := by
          intro n
          induction n with
          | zero => intro h; omega
          | succ n ih =>
            intro h
            have h0 := sumF_bd (l := p.days) (fun k x h => payB_day hv h) n
            rw [sumF]
            by_cases e : k = n
            · subst e; rw [hc]; simp only [Option.getD_some]; omega
            · have := ih (by omega)
              cases hy : p.days[n]? with
              | none => simp only [Option.getD_none]; omega
              | some y => have := payB_day hv hy; simp only [Option.getD_some]; omega
        have := this _ hk
        omega
      have h1 : p.bill * c ≤ p.bill * all := Int.mul_le_mul_of_nonneg_left hca (by omega)
      have h2 : rv (sharesR p) k * all < (p.bill + 1) * all := by rw [Int.add_mul]; omega
      have h3 := Int.lt_of_mul_lt_mul_right h2 (by omega)
      omega
    have a1 : rv (sharesR p) k * all ≤ 10000 * all := Int.mul_le_mul_of_nonneg_right hbound (by omega)
    have hall40 : all ≤ 40 := by omega
    refine ⟨s0, hbound, hx.1, hx.2, a0, by omega, fun h => ?_, fun _ => ⟨hn.1, hn.2.1⟩⟩
    subst h
    rw [Int.mul_zero] at hval hpos
    by_cases h : U k = true
    · have := hpos h
      simp at this
    · rw [if_neg h] at hval
      rw [hval]
      simp
theorem sumS_bd {p : PayD} (hv : payB p = true) : ∀ k : Nat, k ≤ p.days.length → 0 ≤ sumF (sharesR p) k ∧ sumF (sharesR p) k ≤ 10000 * k := by
  intro k
  induction k with
  | zero => intro _; simp [sumF]
  | succ k ih =>
    intro h
    have a := ih (by omega)
    have hc : p.days[k]? = some (p.days[k]'(by omega)) := by simp
    have b := share_ok hv hc
    have b0 := b.s0
    have b1 := b.s1
    rw [sumF]
    show 0 ≤ _ + rv (sharesR p) k ∧ _ + rv (sharesR p) k ≤ _
    omega
theorem sumS_all {p : PayD} (hv : payB p = true) : sumF (sharesR p) p.days.length = if sumF p.days p.days.length = 0 then 0 else p.bill := by
  by_cases hz : sumF p.days p.days.length = 0
  · rw [if_pos hz]
    have : ∀ n, sumF (sharesR p) n = 0 := by
      intro n
      induction n with
      | zero => rfl
      | succ n ih => rw [sumF, ih]; exact (show 0 + rv (sharesR p) n = 0 by rw [sharesR_none hz]; rfl)
    exact this _
  · rw [if_neg hz]
    obtain ⟨U, hU⟩ := sharesR_law hv hz
    exact hU.sum
/-- Who is rounded up has no lesser a rest than who is not. -/
theorem up_tie {p : PayD} (hv : payB p = true) {a b : Nat} {c d : Int} (hc : p.days[a]? = some c) (hd : p.days[b]? = some d) (ha : 0 < sumF p.days p.days.length)
    (ua : p.bill * c < rv (sharesR p) a * sumF p.days p.days.length) (ub : ¬ p.bill * d < rv (sharesR p) b * sumF p.days p.days.length) :
    p.bill * d % sumF p.days p.days.length < p.bill * c % sumF p.days p.days.length ∨ p.bill * d % sumF p.days p.days.length = p.bill * c % sumF p.days p.days.length ∧ a < b := by
  have hka : a < p.days.length := (List.getElem?_eq_some_iff.1 hc).1
  have hkb : b < p.days.length := (List.getElem?_eq_some_iff.1 hd).1
  obtain ⟨U, hU⟩ := sharesR_law hv (by omega)
  have key : ∀ k c, p.days[k]? = some c → k < p.days.length → (p.bill * c < rv (sharesR p) k * sumF p.days p.days.length ↔ U k = true) := fun k c hc hk => by
    have hval := hU.val k hk
    have hpos := hU.pos k hk
    rw [rv_some hc] at hval hpos
    have hn := share_near (x := p.bill * c) (all := sumF p.days p.days.length) (U := if U k = true then 1 else 0) ha rfl rfl (by
      by_cases h : U k = true
      · rw [if_pos h]; exact .inr ⟨rfl, hpos h⟩
      · rw [if_neg h]; exact .inl rfl)
    rw [← hval] at hn
    rw [hn.2.2]
    by_cases h : U k = true
    · rw [if_pos h]; simp [h]
    · rw [if_neg h]; simp [h]
  have h1 := (key a c hc hka).1 ua
  have h2 : U b = false := by
    cases h : U b
    · rfl
    · exact absurd ((key b d hd hkb).2 h) ub
  have := hU.tie a b hka hkb h1 h2
  rw [rv_some hc, rv_some hd] at this
  exact this
end Go.Proofs.YtlcolpnniipgbaaDoor
