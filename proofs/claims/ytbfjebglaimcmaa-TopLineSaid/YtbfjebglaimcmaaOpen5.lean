/- The walk of open, all in all: what it returns, or its panic, for every press. The deferred answer: what it makes of a panic, and of none. The function values that open is handed. How the exported functions end. -/
import Derived.Test.YtbfjebglaimcmaaOpen4
import Derived.Tactics
import Derived.Tactics2
import Derived.Defers
import Derived.Recover
import Derived.Laws.Pointers
import Derived.Shelf.Abstract
namespace Go.Proofs.Ytbfjebglaimcmaa
open Go.RowKit Go.Hav Go.Shelf
section
variable {low top bales : Int} {fa wa : Option Addr} {fl fc wl wc : Nat} {p : PressD}
theorem ShedS.shed {w : World} {r d : Nat} {ga : Option Addr} {sv : Value} (h : ShedS w r d ga fl low top bales wa wl wc sv p) (m1 : fl ≤ 9223372036854775807) (m2 : wl ≤ 9223372036854775807) :
    ShedIn w (d + 1) d ga fl fl low top bales wa wl wc p :=
  ⟨h.blk.lt, by omega, h.blk.cell 0, h.blk.cell 1, h.blk.cell 2, h.blk.cell 3, h.blk.cell 4, ⟨h.elow, h.etop, h.ebales, h.efl, h.ewl, m1, m2, h.hfl.more (by have := h.hd; omega), h.hwl.more (by have := h.hd; omega)⟩⟩
theorem ShedS.grow {w w' : World} {r d : Nat} {ga : Option Addr} {sv : Value} (h : ShedS w r d ga fl low top bales wa wl wc sv p) (hb : Below w.heap.size w w') : ShedS w' r d ga fl low top bales wa wl wc sv p :=
  { h with blk := h.blk.below hb h.blk.lt, hfl := h.hfl.below (hb.mono (by have := h.hd; have := h.blk.lt; omega)), hwl := h.hwl.below (hb.mono (by have := h.hd; have := h.blk.lt; omega)) }
theorem headB_eq {w : World} (hP : PressIn w w.heap.size fa fl low top bales wa wl p) : p.headB = (decide (fl ≤ 10) && inB low 1 200 && inB top low 200 && inB bales 0 5 && decide (wl ≤ 4)) := by
  rw [PressD.headB, hP.efl, hP.ewl, hP.elow, hP.etop, hP.ebales]
theorem press_parts {w : World} (hP : PressIn w w.heap.size fa fl low top bales wa wl p) (hv : p.ok = true) :
    (1 ≤ low ∧ low ≤ 200 ∧ low ≤ top ∧ top ≤ 200 ∧ 0 ≤ bales ∧ bales ≤ 5 ∧ fl ≤ 10 ∧ wl ≤ 4) ∧ p.fl.all PressD.flB = true ∧ (List.range p.weighed.length).all p.baB = true := by
  simp only [PressD.ok, Bool.and_eq_true] at hv
  obtain ⟨⟨hh, hf⟩, hw⟩ := hv
  rw [headB_eq hP] at hh
  simp only [Bool.and_eq_true, inB_iff, decide_eq_true_eq] at hh
  exact ⟨by omega, hf, hw⟩
theorem open_bad (v : Value) (w : World) (hP : PressIn w w.heap.size fa fl low top bales wa wl p) (hv : p.ok = false) :
    Calls Try.prog 55 #[pressV fa fl fc low top bales wa wl wc, v] w fun e w' => e = .panicked [refE 1] ∧ Below w.heap.size w w' := by
  have mfl := hP.mfl
  have mwl := hP.mwl
  by_cases h1 : fl ≤ 10
  case neg => exact open_head1 v h1 mfl w
  cases h2 : inB low 1 200
  · exact open_head2 v h1 h2 w
  cases h3 : inB top low 200
  · exact open_head3 v h1 h2 h3 w
  cases h4 : inB bales 0 5
  · exact open_head4 v h1 h2 h3 h4 w
  by_cases h5 : wl ≤ 4
  case neg => exact open_head5 v h1 h2 h3 h4 h5 mwl w
  have i2 := inB_iff.1 h2
  have i3 := inB_iff.1 h3
  have i4 := inB_iff.1 h4
  cases hf : p.fl.all PressD.flB
  · exact open_fl v i2.1 i2.2 i3.1 i3.2 i4.1 i4.2 h1 h5 w hP hf
  cases hw : (List.range p.weighed.length).all p.baB
  · exact open_ba v i2.1 i2.2 i3.1 i3.2 i4.1 i4.2 h1 h5 w hP hf hw
  have hh : p.headB = true := by rw [headB_eq hP]; simp [h1, h2, h3, h4, h5]
  simp [PressD.ok, hh, hf, hw] at hv
theorem open_panics (g : Nat) (cap : Array Value) (b : Bool) (eg : ∀ args w, (callFunc g args).run Try.prog w = .ok (.enter g args) w) (w : World) (hP : PressIn w w.heap.size fa fl low top bales wa wl p)
    (hg : p.ok = true → IsShed w fl low top bales wa wl wc p g cap b) (h : p.ok = false ∨ b = false) :
    Calls Try.prog 55 #[pressV fa fl fc low top bales wa wl wc, .func (.func g) #[] cap] w fun e w' => e = .panicked [refE (if p.ok then 2 else 1)] ∧ Below w.heap.size w w' := by
  cases hv : p.ok
  · exact open_bad _ w hP hv
  · rcases h with h | h
    · rw [hv] at h; cases h
    · subst h
      obtain ⟨⟨a1, a2, a3, a4, a5, a6, a7, a8⟩, hf, hw⟩ := press_parts hP hv
      exact open_no g cap eg a1 a2 a3 a4 a5 a6 a7 a8 w hP hf hw (hg hv)
theorem open_fine (g : Nat) (cap : Array Value) (eg : ∀ args w, (callFunc g args).run Try.prog w = .ok (.enter g args) w) (w : World) (hP : PressIn w w.heap.size fa fl low top bales wa wl p) (hv : p.ok = true)
    (hg : IsShed w fl low top bales wa wl wc p g cap true) : Calls Try.prog 55 #[pressV fa fl fc low top bales wa wl wc, .func (.func g) #[] cap] w (Opened fl low top bales wa wl wc p w) := by
  obtain ⟨⟨a1, a2, a3, a4, a5, a6, a7, a8⟩, hf, hw⟩ := press_parts hP hv
  exact open_yes g cap eg a1 a2 a3 a4 a5 a6 a7 a8 w hP hf hw hg
end
set_option maxRecDepth 100000 in
theorem answer_panicking (p : Addr) (x e : Int) (w : World) (hc : w.cell? p = some (.int .i64 x)) (hz : w.frozen? p = false) :
    CallsD Try.prog 54 #[.pointer (some p)] (.panicking [refE e]) w fun en u' w' =>
      en = .returned (.tuple #[]) ∧ u' = .panicking [{ refE e with recovered := true }] ∧ w' = w.setCell p (.int .i64 e) := by
  have hta : ∀ w, (Instr.typeAssert (.iface 128 (.int .i64 e)) 20 128 true).run Try.prog w = .ok (.tuple #[.int .i64 e, .bool true]) w := fun w => by kernel_rfl
  refine callsD_of_wpS Try.func54 rfl fun c₀ cs hu => ?_
  apply wpS_seq
  apply wpS_region
  simp [wpOpsS, go_sem, recoverD, hu, Try.ntmps54, Exit.thenS, refE]
  clear hu
  refine wpS_of_wp ?_
  simp only [Array.replicate_succ, Array.replicate_zero, List.push_toArray, List.append_toArray, List.nil_append, List.cons_append, List.setIfInBounds_toArray, List.set_cons_succ, List.set_cons_zero]
  go_wp2
  simp [bodyPostS, results, Try.results54, go_sem]
theorem answer_idle (p : Addr) (w : World) :
    CallsD Try.prog 54 #[.pointer (some p)] .returning w fun e u' w' => e = .returned (.tuple #[]) ∧ u' = .returning ∧ w' = w := by
  refine callsD_of_wpS Try.func54 rfl fun c₀ cs hu => ?_
  apply wpS_seq
  apply wpS_region
  simp [wpOpsS, go_sem, recoverD, hu, Try.ntmps54, Exit.thenS]
  refine wpS_of_wp ?_
  simp only [Array.replicate_succ, Array.replicate_zero, List.push_toArray, List.append_toArray, List.nil_append, List.cons_append, List.setIfInBounds_toArray, List.set_cons_succ, List.set_cons_zero]
  go_wp2
  cases c₀
  simp_all [bodyPostS, results, Try.results54]
def ansD (b : Nat) : Deferred := { target := .fn (.func 54) #[], args := #[.pointer (some ⟨b, 0, none⟩)] }
theorem api_panics {fn : Func} {R : Ending → World → Prop} {a : Act} {w : World} {b : Nat} {e x : Int} {v : Value} (hd : a.defers = [ansD b]) (hc : w.cell? ⟨b, 0, none⟩ = some (.int .i64 x)) (hz : w.frozen? ⟨b, 0, none⟩ = false)
    (hv : (results fn a.tmps).run Try.prog (w.setCell ⟨b, 0, none⟩ (.int .i64 e)) = .ok v (w.setCell ⟨b, 0, none⟩ (.int .i64 e))) (hR : R (.returned v) (w.setCell ⟨b, 0, none⟩ (.int .i64 e))) :
    bodyPostD Try.prog fn R (.panic [refE e]) a w := by
  show Leaves Try.prog fn a.tmps R a.defers (FrameMode.panicking [refE e]) w
  rw [hd]
  refine leaves_cons (f := 54) (args := #[.pointer (some ⟨b, 0, none⟩)]) (by simp) (by simp [go_sem]) ?_
  refine (answer_panicking ⟨b, 0, none⟩ x e w hc hz).mono ?_
  rintro en u' w'' ⟨rfl, rfl, rfl⟩
  exact ⟨v, hv, hR⟩
theorem api_returns {fn : Func} {R : Ending → World → Prop} {a : Act} {w : World} {b : Nat} {v : Value} (hd : a.defers = [ansD b])
    (hv : (results fn a.tmps).run Try.prog w = .ok v w) (hR : R (.returned v) w) :
    bodyPostD Try.prog fn R .ret a w := by
  show Leaves Try.prog fn a.tmps R a.defers FrameMode.returning w
  rw [hd]
  refine leaves_cons (f := 54) (args := #[.pointer (some ⟨b, 0, none⟩)]) (by simp) (by simp [go_sem]) ?_
  refine (answer_idle ⟨b, 0, none⟩ w).mono ?_
  rintro en u' w'' ⟨rfl, rfl, rfl⟩
  exact ⟨v, hv, hR⟩
section
variable {low top bales : Int} {fa wa : Option Addr} {fl fc wl wc : Nat} {p : PressD}
theorem isShed_set (f : Nat) (hf : f = 56 ∨ f = 63 ∨ f = 65) (hn : p.n ≤ 60) (n : Int) (b : Nat) (w : World) (h0 : w.cell? ⟨b, 0, none⟩ = some (.int .i64 n)) (hb : b < w.heap.size) :
    IsShed w fl low top bales wa wl wc p f #[.pointer (some ⟨b, 0, none⟩)] (p.setB n) := by
  intro wq B d ga gc hB _ hD
  have HD := Lib.hid hD
  have q0 := (hB.cell (p := ⟨b, 0, none⟩) hb).trans h0
  clear hB hD h0
  show Calls _ _ #[.pointer (some ⟨d, 0, none⟩), .pointer (some ⟨b, 0, none⟩)] _ _
  rcases hf with rfl | rfl | rfl
  · go_enter Try.func56, Try.ntmps56
    go_wp2_with fail
    refine (isSet_any (p := p) hn n _ (by exact HD.out)).mono ?_
    rintro e w' ⟨rfl, rfl⟩
    go_wp2
    go_ret
    exact ⟨rfl, Below.refl _ _⟩
  · go_enter Try.func63, Try.ntmps63
    go_wp2_with fail
    refine (isSet_any (p := p) hn n _ (by exact HD.out)).mono ?_
    rintro e w' ⟨rfl, rfl⟩
    go_wp2
    go_ret
    exact ⟨rfl, Below.refl _ _⟩
  · go_enter Try.func65, Try.ntmps65
    go_wp2_with fail
    refine (isSet_any (p := p) hn n _ (by exact HD.out)).mono ?_
    rintro e w' ⟨rfl, rfl⟩
    go_wp2
    go_ret
    exact ⟨rfl, Below.refl _ _⟩
theorem isShed_always (w : World) : IsShed w fl low top bales wa wl wc p 69 #[] true := by
  intro wq B d ga gc _ _ hD
  clear hD
  show Calls _ _ #[.pointer (some ⟨d, 0, none⟩)] _ _
  go_enter Try.func69, Try.ntmps69
  go_wp2
  go_ret
  exact ⟨rfl, Below.refl _ _⟩
end
/-- The error of the exported functions, ahead of ErrClash. -/
def argE (p : PressD) : Int := if p.ok then 2 else 1
end Go.Proofs.Ytbfjebglaimcmaa
