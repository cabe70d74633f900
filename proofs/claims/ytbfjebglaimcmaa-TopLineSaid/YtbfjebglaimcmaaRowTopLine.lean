/- TopLine: the step from the walk to the row, the row. Printed by gen_press_rows.py, and by hand. -/
import Derived.Test.YtbfjebglaimcmaaRow0
import Derived.Test.YtbfjebglaimcmaaLawTy
import Derived.ChangeOld
namespace Go.Proofs.Ytbfjebglaimcmaa
open Go.ChangeShapes Go.WideShapes Go.ChangeAt Go.RowKit Go.Hav Go.Deep
set_option maxRecDepth 100000
section
variable {H : Type} {enc : TypeId × Value → H} {W : World} {base : Nat} {spare : Nat → Bool} {held : Bool}
theorem open_u16t {r : Reach} {b0 : Nat} {v : Value} {d : DataW H} {p : List MemPlace} (hv : Value.okWide Try.prog W r b0 47 v) (h : DataW.Trod enc Try.prog W base spare held 47 v d p) :
    ∃ (A : Option Addr) (al ac : Nat) (us : List Nat), v = .slice A al ac ∧ us.length = al ∧ (∀ x ∈ us, x ≤ 65535) ∧ al ≤ 9223372036854775807 ∧ RdG uV 1 W W.heap.size A us := by
  obtain ⟨A, al, ac, rfl⟩ := okWide_slice Try.underlying47 hv
  obtain ⟨fuel, hf⟩ := h
  obtain ⟨A', al', ac', e, hm, hi⟩ := open_rows (sz := 1) (c := .slice A al ac) Try.underlying47 (by kernel_rfl) (by decide) (by simpa [Value.cells] using hf)
  obtain ⟨rfl, rfl, rfl⟩ : A = A' ∧ al = al' ∧ ac = ac' := by simpa using e
  obtain ⟨l, hl, hp⟩ := list_of (fun i (x : Nat) => x ≤ 65535 ∧ ∃ b off, A = some ⟨b, off, none⟩ ∧ b < W.heap.size ∧ ∀ j u, (uV x)[j]? = some u → W.cell? ⟨b, off + (i * 1 + j), none⟩ = some u) al (fun i hlt => by
    obtain ⟨b, off, n, cs, y, e1, _, hc, ht⟩ := hi i hlt
    obtain ⟨a, e2, _, hw⟩ := DataW.trod_int Try.underlying46 ht
    subst e2
    have hb := u16_wf hw
    have h0 := hc 0 (.int .u16 a) (by rfl)
    obtain ⟨m, rfl⟩ : ∃ m : Nat, a = m := ⟨a.toNat, by omega⟩
    refine ⟨m, by omega, b, off, e1, ?_, hc⟩
    rcases Nat.lt_or_ge b W.heap.size with hlt | hge
    · exact hlt
    · unfold World.cell? at h0
      simp [Array.getElem?_eq_none hge] at h0)
  refine ⟨A, al, ac, l, rfl, hl, fun x hx => ?_, by unfold maxLen at hm; omega, fun k x hx => (hp k x hx).2⟩
  obtain ⟨k, hk⟩ := List.getElem?_of_mem hx
  exact (hp k x hk).1
end
theorem topLine_lifted (os : Os) (started : os.Started) (H : Type) (enc : TypeId × Value → H) :
    ReturnsInHanded {} Try.checked os 11 .any (Rows.topLineSpec.pre6 enc Try.prog Try.f11 Rows.topLineRow.domain false) (Rows.topLineSpec.post enc Try.prog Try.f11 false true false false) := by
  refine returnsInHanded_of_change (C := Try.checked) rowOwn started (by kernel_rfl) Try.func11
    (ChangeSpec.witness6 (enc := enc) (C := Try.checked) false ⟨#[], #[(.agg #[.slice none 0 0, .int .i64 0, .int .i64 0, .int .i64 0, .slice none 0 0]), .int .u16 0, .int .u8 0, .slice none 0 0], []⟩ 8 (by kernel_rfl) (by kernel_rfl) (by kernel_rfl) (by kernel_rfl)) ?_
  intro W base args ds gs before hval0 hW _ _
  have hval : ∀ (j : Nat) t v, Try.f11.params[j]? = some t → args[j]? = some v → Value.okWide Try.prog W .any base t v := hval0
  have hW' := hW
  obtain ⟨p, q, hA0, hV, rfl, hfz, hnd⟩ := hW
  have hA : DataW.TrodAll enc Try.prog W 0 (fun _ => true) true Try.f11.params.toList args.toList ds p := hA0
  rw [Try.params11] at hA hval
  obtain ⟨v0, vs0, d0, ds0, p0, q0, hargs, rfl, rfl, h0, r0⟩ := trodAll_cons hA
  obtain ⟨v1, vs1, d1, ds1, p1, q1, rfl, rfl, rfl, h1, r1⟩ := trodAll_cons r0
  obtain ⟨v2, vs2, d2, ds2, p2, q2, rfl, rfl, rfl, h2, r2⟩ := trodAll_cons r1
  obtain ⟨v3, vs3, d3, ds3, p3, q3, rfl, rfl, rfl, h3, r3⟩ := trodAll_cons r2
  obtain ⟨rfl, rfl, rfl⟩ := trodAll_nil r3
  obtain rfl : args = #[v0, v1, v2, v3] := by cases args; simp_all
  obtain ⟨rfl, rfl⟩ := trodVars_none hV
  have k0 := h0
  have lt0 : ∀ x ∈ p0, x.block < W.heap.size := by obtain ⟨m, hm⟩ := k0; exact DataW.trod_lt m _ _ _ hm
  obtain ⟨low, top, bales, fa, wa, fl, fc, wl, wc, P, rfl, hP⟩ := open_press (hval 0 25 v0 rfl rfl) h0
  have k1 := h1
  have lt1 : ∀ x ∈ p1, x.block < W.heap.size := by obtain ⟨m, hm⟩ := k1; exact DataW.trod_lt m _ _ _ hm
  obtain ⟨n1, rfl, hn1⟩ : ∃ n : Nat, v1 = .int .u16 n ∧ n ≤ 65535 := by
    obtain ⟨b, rfl⟩ := okWide_int Try.underlying46 (hval 1 46 v1 rfl rfl)
    obtain ⟨m, hm⟩ := h1
    obtain ⟨a, e2, _, hw⟩ := DataW.trod_int Try.underlying46 hm
    have hb := u16_wf hw
    obtain rfl : b = a := by simpa [Value.cells] using e2
    refine ⟨b.toNat, ?_, by omega⟩
    rw [show ((b.toNat : Nat) : Int) = b by omega]
  have k2 := h2
  have lt2 : ∀ x ∈ p2, x.block < W.heap.size := by obtain ⟨m, hm⟩ := k2; exact DataW.trod_lt m _ _ _ hm
  obtain ⟨n2, rfl, hn2⟩ : ∃ n : Nat, v2 = .int .u8 n ∧ n ≤ 255 := by
    obtain ⟨b, rfl⟩ := okWide_int Try.underlying5 (hval 2 5 v2 rfl rfl)
    obtain ⟨m, hm⟩ := h2
    obtain ⟨a, e2, _, hw⟩ := DataW.trod_int Try.underlying5 hm
    have hb := u8_wf hw
    obtain rfl : b = a := by simpa [Value.cells] using e2
    refine ⟨b.toNat, ?_, by omega⟩
    rw [show ((b.toNat : Nat) : Int) = b by omega]
  have k3 := h3
  have lt3 : ∀ x ∈ p3, x.block < W.heap.size := by obtain ⟨m, hm⟩ := k3; exact DataW.trod_lt m _ _ _ hm
  obtain ⟨A3, al3, ac3, U3, rfl, e3, g3, m3, u3⟩ := open_u16t (hval 3 47 v3 rfl rfl) h3
  clear hA0 hval0
  simp only [List.append_nil] at hW'
  refine (TopLine_any hn1 hn2 W hP ⟨e3, m3, u3, g3⟩).mono fun e W' ⟨he, bel⟩ => ?_
  subst he
  exact ⟨_, rfl, _, _, _, [], _, [], hW', trodAll_mk1 (shut_bool Try.underlying4 _), (trodAll_cons_mk (Below.trod rowLaidOut (by kernel_rfl) (of_decide_eq_true (by kernel_rfl)) k0 bel lt0) (trodAll_cons_mk (Below.trod rowLaidOut (by kernel_rfl) (of_decide_eq_true (by kernel_rfl)) k1 bel lt1) (trodAll_cons_mk (Below.trod rowLaidOut (by kernel_rfl) (of_decide_eq_true (by kernel_rfl)) k2 bel lt2) (trodAll_cons_mk (Below.trod rowLaidOut (by kernel_rfl) (of_decide_eq_true (by kernel_rfl)) k3 bel lt3) trodAll_mk0)))), rfl, bel.frame _, fun h => by cases h⟩
theorem topLine_holds : Rows.TopLineSaid :=
  OpenClaim.holds_of_wide 11 Try.f11 rfl rfl rfl rfl rfl rfl rfl ⟨rfl, rfl, rfl, rfl, rfl⟩ rfl rfl rfl rfl rfl (by kernel_rfl) Try.func11 (by kernel_rfl)
    (of_decide_eq_true (by kernel_rfl)) (by unfold Func.isWrapper; first | (rw [if_pos (by decide +kernel)]; kernel_rfl) | (rw [if_neg (by decide +kernel)]; exact ⟨rfl, rfl⟩))
    (fun os started H enc _ => topLine_lifted os started H enc)
#print axioms topLine_holds
end Go.Proofs.Ytbfjebglaimcmaa
