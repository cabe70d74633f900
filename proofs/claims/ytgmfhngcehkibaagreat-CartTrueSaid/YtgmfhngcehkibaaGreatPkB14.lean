/- The desk of the carts: is it within, must, what a stop becomes; the exported functions' answers. Carts that come in; what valid and open leave: an error as a panic, or whether the river has a truth, or the yard. What valid and open leave, whole. A rule for a region that draws its order: some operations float, others come in a chain, each behind those ahead; the world is what the chain has made of it. What open leaves; the wagon's number; when it comes; the functions that the exported ones hand over. Condition: what the statements say. -/
import Derived.Test.YtgmfhngcehkibaaGreatPkB13
set_option maxRecDepth 100000
set_option maxHeartbeats 6400000
namespace Go.Proofs.YtgmfhngcehkibaaGreat
open Go.RowKit Go.Hav Go.Shelf Go.Sq
attribute [local go_sem] Oper.semAt_some
def refC (e : Int) : PanicEntry := { v := .iface 120 (.agg #[.int .i64 e]), recovered := false }
theorem cx31 {w : World} {b : Nat} {a0 a1 a2 a3 a4 a5 a6 a7 a8 a9 : Value} (h : Blk w b 31 #[a0, a1, a2, a3, a4, a5, a6, a7, a8, a9]) : w.cell? ⟨b, 0, none⟩ = some a0 ∧ w.cell? ⟨b, 1, none⟩ = some a1 ∧ w.cell? ⟨b, 2, none⟩ = some a2 ∧ w.cell? ⟨b, 3, none⟩ = some a3 ∧ w.cell? ⟨b, 4, none⟩ = some a4 ∧ w.cell? ⟨b, 5, none⟩ = some a5 ∧ w.cell? ⟨b, 6, none⟩ = some a6 ∧ w.cell? ⟨b, 7, none⟩ = some a7 ∧ w.cell? ⟨b, 8, none⟩ = some a8 ∧ w.cell? ⟨b, 9, none⟩ = some a9 ∧ b < w.heap.size :=
 ⟨h.cell 0, h.cell 1, h.cell 2, h.cell 3, h.cell 4, h.cell 5, h.cell 6, h.cell 7, h.cell 8, h.cell 9, h.lt⟩
theorem cmust_any (b : Bool) (e : Int) (w : World) : Calls Tryz.prog 60 #[.bool b, .int .i64 e] w fun x w' => x = (if b then .returned (.tuple #[]) else .panicked [refC e]) ∧ w' = w := by
 cases b
 ·go_enter Tryz.func60, Tryz.ntmps60
  go_wp2; exact ⟨rfl, rfl, rfl⟩
 ·go_enter Tryz.func60, Tryz.ntmps60
  go_wp2
  go_end0
  exact ⟨rfl, rfl⟩
theorem cwithin_any (n lo hi : Int) (w : World) :
  Calls Tryz.prog 93 #[.int .i64 n, .int .i64 lo, .int .i64 hi] w fun e w' => e = .returned (.bool (inB n lo hi)) ∧ w' = w := by
 by_cases h1 : lo ≤ n
 ·have hl : decide (lo ≤ n) = true := by simp [h1]
  go_enter Tryz.func93, Tryz.ntmps93
  go_wp2; go_ret
  exact ⟨ret_bool (by simp [inB, h1]), rfl⟩
 ·have hl : decide (lo ≤ n) = false := by simp [h1]
  go_enter Tryz.func93, Tryz.ntmps93
  go_wp2; go_ret
  exact ⟨ret_bool (by simp [inB]; omega), rfl⟩
theorem cstopped_nil (p : Addr) (w : World) : Calls Tryz.prog 43 #[.nilIface, .pointer (some p)] w fun e w' => e = .returned (.tuple #[]) ∧ w' = w := by
 go_enter Tryz.func43, Tryz.ntmps43
 go_wp2; refine bodyPost_ret (results_none rfl _ _ _) rfl ⟨rfl, rfl⟩
def ansC (w : World) (b : Nat) (e : Int) : World := (w.setCell ⟨b, 0, none⟩ (.int .i64 e)).alloc (.cells #[.int .i64 e] 120)
theorem cstopped_err (b : Nat) (x e : Int) (w : World) (hk : Blk w b 35 #[.int .i64 x]) :
  Calls Tryz.prog 43 #[.iface 120 (.agg #[.int .i64 e]), .pointer (some ⟨b, 0, none⟩)] w fun en w' => en = .returned (.tuple #[]) ∧ w' = ansC w b e := by
 have hta : ∀ w, (Instr.typeAssert (.iface 120 (.agg #[.int .i64 e])) 20 120 true).run Tryz.prog w = .ok (.tuple #[.agg #[.int .i64 e], .bool true]) w := fun w => by kernel_rfl
 have HK := Lib.hid (hk.alloc (.cells #[.int .i64 e] 120)); have hc : (w.alloc (.cells #[.int .i64 e] 120)).cell? ⟨b, 0, none⟩ = some (.int .i64 x) := HK.out.cell 0; have hz : (w.alloc (.cells #[.int .i64 e] 120)).frozen? ⟨b, 0, none⟩ = false := HK.out.frozen 0; have hl := hk.lt; clear hk; unfold ansC
 go_enter Tryz.func43, Tryz.ntmps43
 go_wp2
 go_end0
 exact ⟨rfl, rfl⟩
def IsAnsC (f : Nat) : Prop := (∀ (b : Nat) (x e : Int) (w : World) (n : Nat), Blk w b 35 #[.int .i64 x] → CallsDIn Fence.wide n Tryz.prog f #[.pointer (some ⟨b, 0, none⟩)] (.panicking [refC e]) w fun en u' w' => en = .returned (.tuple #[]) ∧ u' = .panicking [{ refC e with recovered := true }] ∧ w' = ansC w b e) ∧
 ∀ (p : Addr) (w : World) (n : Nat), CallsDIn Fence.wide n Tryz.prog f #[.pointer (some p)] .returning w fun en u' w' => en = .returned (.tuple #[]) ∧ u' = .returning ∧ w' = w
theorem isAnsC42 : IsAnsC 42 := by
 refine ⟨fun b x e w n hk => ?_, fun p w n => ?_⟩
 ·refine callsDIn_of_wpS Tryz.func42 rfl fun c₀ cs hu => ?_
  apply wpS_region
  simp [wpOpsS, go_sem, recoverD, hu, Tryz.ntmps42, refC]
  refine (cstopped_err b x e w hk).mono ?_; rintro en w' ⟨rfl, rfl⟩
  simp [bodyPostS, results, Tryz.results42, go_sem]
 ·refine callsDIn_of_wpS Tryz.func42 rfl fun c₀ cs hu => ?_
  apply wpS_region
  simp [wpOpsS, go_sem, recoverD, hu, Tryz.ntmps42]
  refine (cstopped_nil p w).mono ?_; rintro en w' ⟨rfl, rfl⟩; cases c₀
  simp_all [bodyPostS, results, Tryz.results42, go_sem]
theorem isAnsC50 : IsAnsC 50 := by
 refine ⟨fun b x e w n hk => ?_, fun p w n => ?_⟩
 ·refine callsDIn_of_wpS Tryz.func50 rfl fun c₀ cs hu => ?_
  apply wpS_region
  simp [wpOpsS, go_sem, recoverD, hu, Tryz.ntmps50, refC]
  refine (cstopped_err b x e w hk).mono ?_; rintro en w' ⟨rfl, rfl⟩
  simp [bodyPostS, results, Tryz.results50, go_sem]
 ·refine callsDIn_of_wpS Tryz.func50 rfl fun c₀ cs hu => ?_
  apply wpS_region
  simp [wpOpsS, go_sem, recoverD, hu, Tryz.ntmps50]
  refine (cstopped_nil p w).mono ?_; rintro en w' ⟨rfl, rfl⟩; cases c₀
  simp_all [bodyPostS, results, Tryz.results50, go_sem]
theorem isAnsC56 : IsAnsC 56 := by
 refine ⟨fun b x e w n hk => ?_, fun p w n => ?_⟩
 ·refine callsDIn_of_wpS Tryz.func56 rfl fun c₀ cs hu => ?_
  apply wpS_region
  simp [wpOpsS, go_sem, recoverD, hu, Tryz.ntmps56, refC]
  refine (cstopped_err b x e w hk).mono ?_; rintro en w' ⟨rfl, rfl⟩
  simp [bodyPostS, results, Tryz.results56, go_sem]
 ·refine callsDIn_of_wpS Tryz.func56 rfl fun c₀ cs hu => ?_
  apply wpS_region
  simp [wpOpsS, go_sem, recoverD, hu, Tryz.ntmps56]
  refine (cstopped_nil p w).mono ?_; rintro en w' ⟨rfl, rfl⟩; cases c₀
  simp_all [bodyPostS, results, Tryz.results56, go_sem]
theorem isAnsC64 : IsAnsC 64 := by
 refine ⟨fun b x e w n hk => ?_, fun p w n => ?_⟩
 ·refine callsDIn_of_wpS Tryz.func64 rfl fun c₀ cs hu => ?_
  apply wpS_region
  simp [wpOpsS, go_sem, recoverD, hu, Tryz.ntmps64, refC]
  refine (cstopped_err b x e w hk).mono ?_; rintro en w' ⟨rfl, rfl⟩
  simp [bodyPostS, results, Tryz.results64, go_sem]
 ·refine callsDIn_of_wpS Tryz.func64 rfl fun c₀ cs hu => ?_
  apply wpS_region
  simp [wpOpsS, go_sem, recoverD, hu, Tryz.ntmps64]
  refine (cstopped_nil p w).mono ?_; rintro en w' ⟨rfl, rfl⟩; cases c₀
  simp_all [bodyPostS, results, Tryz.results64, go_sem]
theorem isAnsC70 : IsAnsC 70 := by
 refine ⟨fun b x e w n hk => ?_, fun p w n => ?_⟩
 ·refine callsDIn_of_wpS Tryz.func70 rfl fun c₀ cs hu => ?_
  apply wpS_region
  simp [wpOpsS, go_sem, recoverD, hu, Tryz.ntmps70, refC]
  refine (cstopped_err b x e w hk).mono ?_; rintro en w' ⟨rfl, rfl⟩
  simp [bodyPostS, results, Tryz.results70, go_sem]
 ·refine callsDIn_of_wpS Tryz.func70 rfl fun c₀ cs hu => ?_
  apply wpS_region
  simp [wpOpsS, go_sem, recoverD, hu, Tryz.ntmps70]
  refine (cstopped_nil p w).mono ?_; rintro en w' ⟨rfl, rfl⟩; cases c₀
  simp_all [bodyPostS, results, Tryz.results70, go_sem]
theorem isAnsC76 : IsAnsC 76 := by
 refine ⟨fun b x e w n hk => ?_, fun p w n => ?_⟩
 ·refine callsDIn_of_wpS Tryz.func76 rfl fun c₀ cs hu => ?_
  apply wpS_region
  simp [wpOpsS, go_sem, recoverD, hu, Tryz.ntmps76, refC]
  refine (cstopped_err b x e w hk).mono ?_; rintro en w' ⟨rfl, rfl⟩
  simp [bodyPostS, results, Tryz.results76, go_sem]
 ·refine callsDIn_of_wpS Tryz.func76 rfl fun c₀ cs hu => ?_
  apply wpS_region
  simp [wpOpsS, go_sem, recoverD, hu, Tryz.ntmps76]
  refine (cstopped_nil p w).mono ?_; rintro en w' ⟨rfl, rfl⟩; cases c₀
  simp_all [bodyPostS, results, Tryz.results76, go_sem]
theorem isAnsC79 : IsAnsC 79 := by
 refine ⟨fun b x e w n hk => ?_, fun p w n => ?_⟩
 ·refine callsDIn_of_wpS Tryz.func79 rfl fun c₀ cs hu => ?_
  apply wpS_region
  simp [wpOpsS, go_sem, recoverD, hu, Tryz.ntmps79, refC]
  refine (cstopped_err b x e w hk).mono ?_; rintro en w' ⟨rfl, rfl⟩
  simp [bodyPostS, results, Tryz.results79, go_sem]
 ·refine callsDIn_of_wpS Tryz.func79 rfl fun c₀ cs hu => ?_
  apply wpS_region
  simp [wpOpsS, go_sem, recoverD, hu, Tryz.ntmps79]
  refine (cstopped_nil p w).mono ?_; rintro en w' ⟨rfl, rfl⟩; cases c₀
  simp_all [bodyPostS, results, Tryz.results79, go_sem]
theorem api_panicC {f b B n : Nat} {x e : Int} {fn : Func} {tmps : Array Value} {R : Ending → World → Prop} {ds : List Deferred} {w : World} (hf : IsAnsC f) (ef : ∀ args w, (callFunc f args).run Tryz.prog w = .ok (.enter f args) w) (hm : Marks B w ds) (hk : Blk w b 35 #[.int .i64 x])
  (hfin : ∀ w', Blk w' b 35 #[.int .i64 e] → (∀ (g : Nat) (t : TypeId) (cs : Array Value), g ≠ b → Blk w g t cs → Blk w' g t cs) → (∀ N, N ≤ B → N ≤ b → Below N w w') → ∃ v, (results fn tmps).run Tryz.prog w' = .ok v w' ∧ R (.returned v) w') :
  LeavesInM Fence.wide n Tryz.prog fn tmps R (ds ++ [ansD f b]) (.panicking [refC e]) w := by
 refine leaves_marksR (by simp) _ ds w hm fun w1 hs => ?_
 refine ⟨by simp, .inr ⟨by simp [Fence.wide], .func f, #[.pointer (some ⟨b, 0, none⟩)], f, #[.pointer (some ⟨b, 0, none⟩)], rfl, by simp [ansD, invoke, go_sem, ef], fun _ _ => trivial, ?_⟩⟩
 refine (hf.1 b x e w1 (n - 1) (hs.blk hk)).mono ?_; rintro en u' w' ⟨rfl, rfl, rfl⟩; have hsz := (hs.blk hk).lt; have hb1 : Blk (ansC w1 b e) b 35 #[.int .i64 e] := ((hs.blk hk).set_ 0 _).alloc _
 refine hfin _ hb1 (fun g t cs hg h => ((hs.blk h).far (p := ⟨b, 0, none⟩) hg _).alloc _) (fun N h1 h2 => ?_)
 have h3 := (hs.below h1).size; have h4 : N ≤ w1.heap.size := by omega
 exact ((hs.below h1).setCell (p := ⟨b, 0, none⟩) h2 _).alloc (by rw [hs.size] at h4; simpa [World.setCell, hs.size] using h4) _
theorem api_retC {f b B n : Nat} {fn : Func} {tmps : Array Value} {R : Ending → World → Prop} {ds : List Deferred} {w : World} (hf : IsAnsC f) (ef : ∀ args w, (callFunc f args).run Tryz.prog w = .ok (.enter f args) w) (hm : Marks B w ds)
  (hfin : ∀ w', (∀ (g : Nat) (t : TypeId) (cs : Array Value), Blk w g t cs → Blk w' g t cs) → (∀ N, N ≤ B → Below N w w') → ∃ v, (results fn tmps).run Tryz.prog w' = .ok v w' ∧ R (.returned v) w') :
  LeavesInM Fence.wide n Tryz.prog fn tmps R (ds ++ [ansD f b]) .returning w := by
 refine leaves_marksR (by simp) _ ds w hm fun w1 hs => ?_
 refine ⟨by simp, .inr ⟨by simp [Fence.wide], .func f, #[.pointer (some ⟨b, 0, none⟩)], f, #[.pointer (some ⟨b, 0, none⟩)], rfl, by simp [ansD, invoke, go_sem, ef], fun _ _ => trivial, ?_⟩⟩
 refine (hf.2 ⟨b, 0, none⟩ w1 (n - 1)).mono ?_; rintro en u' w' ⟨rfl, rfl, rfl⟩
 exact hfin _ (fun g t cs h => hs.blk h) (fun N h1 => hs.below h1)
def wgI (w : IWag) : List Value := [.int .i64 w.leaves, .int .i64 w.takes.lo, .int .i64 w.takes.hi, .int .i64 w.room]
def ltI (l : ILot) : List Value := [.int .i64 l.from_, .int .i64 l.bales, .int .i64 l.price, .int .i64 l.until_, .int .i64 l.less]
structure CtIn (w : World) (B : Nat) (fa : Option Addr) (fl : Nat) (la : Option Addr) (ll : Nat) (wa : Option Addr) (wn : Nat) (ta : Option Addr) (tn : Nat) (c : ICart) : Prop where
 riv : RvIn w B fa fl la ll c.riv
 ewn : c.wg.length = wn
 etn : c.lt.length = tn
 hwg : RdG wgI 4 w B wa c.wg
 hlt : RdG ltI 5 w B ta c.lt
 mwn : wn ≤ 9223372036854775807
 mtn : tn ≤ 9223372036854775807
section
variable {fa la wa ta : Option Addr} {fl fc ll lc wn wc tn tc : Nat} {c : ICart}
variable {w w' : World} {B : Nat}
theorem CtIn.grow (h : CtIn w w.heap.size fa fl la ll wa wn ta tn c) (hb : Below w.heap.size w w') : CtIn w' w'.heap.size fa fl la ll wa wn ta tn c := { h with riv := h.riv.grow hb, hwg := h.hwg.grow hb, hlt := h.hlt.grow hb }
end
theorem rd_wg {w : World} {B : Nat} {A : Option Addr} {l : List IWag} (h : RdG wgI 4 w B A l) (k : Nat) (c : IWag) (hc : l[k]? = some c) : ∃ b off, A = some ⟨b, off, none⟩ ∧ b < B ∧ w.cell? ⟨b, off + k * 4, none⟩ = some (.int .i64 c.leaves) ∧ w.cell? ⟨b, off + k * 4 + 1, none⟩ = some (.int .i64 c.takes.lo) ∧
  w.cell? ⟨b, off + k * 4 + 2, none⟩ = some (.int .i64 c.takes.hi) ∧ w.cell? ⟨b, off + k * 4 + 3, none⟩ = some (.int .i64 c.room) := by
 obtain ⟨b, off, e, hb, hx⟩ := h k c hc; exact ⟨b, off, e, hb, hx 0 _ rfl, by rw [Nat.add_assoc]; exact hx 1 _ rfl, by rw [Nat.add_assoc]; exact hx 2 _ rfl, by rw [Nat.add_assoc]; exact hx 3 _ rfl⟩
theorem rd_lt {w : World} {B : Nat} {A : Option Addr} {l : List ILot} (h : RdG ltI 5 w B A l) (k : Nat) (c : ILot) (hc : l[k]? = some c) : ∃ b off, A = some ⟨b, off, none⟩ ∧ b < B ∧ w.cell? ⟨b, off + k * 5, none⟩ = some (.int .i64 c.from_) ∧ w.cell? ⟨b, off + k * 5 + 1, none⟩ = some (.int .i64 c.bales) ∧
  w.cell? ⟨b, off + k * 5 + 2, none⟩ = some (.int .i64 c.price) ∧ w.cell? ⟨b, off + k * 5 + 3, none⟩ = some (.int .i64 c.until_) ∧ w.cell? ⟨b, off + k * 5 + 4, none⟩ = some (.int .i64 c.less) := by
 obtain ⟨b, off, e, hb, hx⟩ := h k c hc; exact ⟨b, off, e, hb, hx 0 _ rfl, by rw [Nat.add_assoc]; exact hx 1 _ rfl, by rw [Nat.add_assoc]; exact hx 2 _ rfl, by rw [Nat.add_assoc]; exact hx 3 _ rfl, by rw [Nat.add_assoc]; exact hx 4 _ rfl⟩
theorem CT_take_all {α : Type} (f : α → Bool) (l : List α) (k : Nat) (x : α) (h : l[k]? = some x) : (l.take (k + 1)).all f = ((l.take k).all f && f x) := by
 rw [List.take_add_one, h]
 simp
theorem CT_all_false {α : Type} {f : α → Bool} {l : List α} {k : Nat} {x : α} (h : l[k]? = some x) (hx : f x = false) : l.all f = false := by
 cases ha : l.all f with
 | false => rfl
 | true =>
  have := List.all_eq_true.1 ha x (List.mem_of_getElem? h); rw [hx] at this; cases this
noncomputable def validK (n : Nat) : Code := dropSeq n (Tryz.f44.body.getD .skip)
def hasT (c : ICart) : Bool := decide (truthsA c.riv.nat ≠ [])
def ValidPost (c : ICart) (b : Bool) (w : World) (e : Ending) (w' : World) : Prop :=
 Below w.heap.size w w' ∧ ((okC c = false ∧ e = .panicked [refC 1]) ∨ (okC c = true ∧ b = false ∧ e = .panicked [refC 2]) ∨ (okC c = true ∧ b = true ∧ e = .returned (.bool (hasT c))))
section
variable {fa la wa ta : Option Addr} {fl fc ll lc wn wc tn tc : Nat} {c : ICart}
variable {w0 : World} {b : Bool}
def IsQ (w0 : World) (g : Nat) (cap : Array Value) (b : Bool) : Prop := ∀ wq : World, Below w0.heap.size w0 wq → Calls Tryz.prog g cap wq fun e w' => e = .returned (.bool b) ∧ Below wq.heap.size wq w'
theorem valid5 (g : Nat) (cap : Array Value) (eg : ∀ args w, (callFunc g args).run Tryz.prog w = .ok (.enter g args) w) (hg : okC c = true → IsQ w0 g cap b) (hv : okC c = true) {w : World} (hb : Below w0.heap.size w0 w) (c0 c2 c3 c4 c5 c7 c8 c9 c10 c11 c12 c13 c14 c15 c16 c17 c18 c19 c20 c21 c22 c23 c24 c25 c26 c27 c28 c29 c30 c31 c32 c33 c34 c35 c36 c37 c38 c39 c40 c41 c42 c43 c44 c45 c46 c47 c48 c49 c50 c51 c52 c53 c54 c55 c56 c57 c58 c59 c60 c61 c62 c63 c64 c65 c66 c67 c68 c69 c70 c71 c72 c73 c74 c75 c76 c77 c78 c79 c80 c81 c82 c83 c84 c85 c86 c87 c88 c89 c90 c91 c92 c93 c94 c95 c96 c97 c98 c99 c100 c101 c102 c103 c104 c105 c106 c107 c108 c109 c110 c111 c112 c113 : Value) :
  Code.wp Tryz.prog (validK 5) (bodyPost Tryz.prog Tryz.f44 (ValidPost c b w0)) ⟨(c0::(.func (.func g) #[] cap)::c2::c3::c4::c5::(.int .i64 (clashE c.riv))::c7::c8::c9::c10::c11::c12::c13::c14::c15::c16::c17::c18::c19::c20::c21::c22::c23::c24::c25::c26::c27::c28::c29::c30::c31::c32::c33::c34::c35::c36::c37::c38::c39::c40::c41::c42::c43::c44::c45::c46::c47::c48::c49::c50::c51::c52::c53::c54::c55::c56::c57::c58::c59::c60::c61::c62::c63::c64::c65::c66::c67::c68::c69::c70::c71::c72::c73::c74::c75::c76::c77::c78::c79::c80::c81::c82::c83::c84::c85::c86::c87::c88::c89::c90::c91::c92::c93::c94::c95::c96::c97::c98::c99::c100::c101::c102::c103::c104::c105::c106::c107::c108::c109::c110::c111::c112::c113::[]).toArray, []⟩ w := by
 conv => arg 2; whnf
 have HG := Lib.hid (hg hv); have HV := Lib.hid hv; have HB := Lib.hid hb; obtain ⟨E, hE⟩ : ∃ E : Int, E = (clashE c.riv : Int) := ⟨_, rfl⟩
 have hE2 : (E = 4 ∧ hasT c = true) ∨ (E = 0 ∧ hasT c = false) := by
  unfold clashE at hE; rw [(okC_parts hv).1, if_neg (by decide)] at hE
  unfold hasT
  by_cases h : truthsA c.riv.nat = []
  ·rw [if_pos h] at hE; exact .inr ⟨hE, decide_eq_false (fun x => x h)⟩
  ·rw [if_neg h] at hE; exact .inl ⟨hE, decide_eq_true h⟩
 rw [← hE]; clear hg hv hb hE; go_wp2_with fail; have hq := HG.out w HB.out; refine hq.mono ?_; cases b
 ·rintro e w' ⟨rfl, hb1⟩; have HB1 : Hid (Below w0.heap.size w0 w') := HB.out.trans (hb1.mono HB.out.size); clear hb1 hq; go_wp2_with fail; refine (cmust_any false 2 _).mono ?_; rintro e w2 ⟨h1, rfl⟩; obtain rfl : e = .panicked [refC 2] := h1; have HP : Hid (ValidPost c false w0 (.panicked [refC 2]) w2) := ⟨HB1.out, .inr (.inl ⟨HV.out, rfl, rfl⟩)⟩; go_wp2; exact ⟨rfl, HP.out⟩
 ·rintro e w' ⟨rfl, hb1⟩; have HB1 : Hid (Below w0.heap.size w0 w') := HB.out.trans (hb1.mono HB.out.size); clear hb1 hq; go_wp2_with fail; refine (cmust_any true 2 _).mono ?_; rintro e w2 ⟨h1, rfl⟩; obtain rfl : e = .returned (.tuple #[]) := h1; rcases hE2 with ⟨rfl, ht⟩ | ⟨rfl, ht⟩
  ·have HP : Hid (ValidPost c true w0 (.returned (.bool true)) w2) := ⟨HB1.out, .inr (.inr ⟨HV.out, rfl, by rw [ht]⟩)⟩
   clear ht; go_wp2; go_ret
   exact HP.out
  ·have HP : Hid (ValidPost c true w0 (.returned (.bool false)) w2) := ⟨HB1.out, .inr (.inr ⟨HV.out, rfl, by rw [ht]⟩)⟩
   clear ht; go_wp2; go_ret
   exact HP.out
theorem valid4 (g : Nat) (cap : Array Value) (eg : ∀ args w, (callFunc g args).run Tryz.prog w = .ok (.enter g args) w) (hg : okC c = true → IsQ w0 g cap b) (hP : CtIn w0 w0.heap.size fa fl la ll wa wn ta tn c) (hH : headC c = true) (hW : c.wg.all wagB = true) {w : World} {b2 : Nat} (hb : Below w0.heap.size w0 w) (hx : Blk w b2 31 #[.int .i64 c.riv.depth.lo, .int .i64 c.riv.depth.hi, .int .i64 c.riv.fall.lo, .int .i64 c.riv.fall.hi, .int .i64 c.riv.days, .slice fa fl fc, .slice la ll lc, .int .i64 c.draws, .slice wa wn wc, .slice ta tn tc]) (c0 c3 c4 c5 c7 c8 c9 c10 c11 c12 c13 c14 c15 c16 c17 c18 c19 c20 c21 c22 c23 c24 c25 c26 c27 c28 c29 c30 c31 c32 c33 c34 c35 c36 c37 c38 c39 c40 c41 c42 c43 c44 c45 c46 c47 c48 c49 c50 c51 c52 c53 c54 c55 c56 c57 c58 c59 c60 c61 c62 c63 c64 c65 c66 c67 c68 c69 c70 c71 c72 c73 c74 c75 c76 c77 c78 c79 c80 c81 c82 c83 c84 c85 c86 c87 c88 c89 c90 c91 c92 c93 c94 c95 c96 c97 c98 c99 c100 c101 c102 c103 c104 c105 c106 c107 c108 c109 c110 c111 c112 c113 : Value) :
  Code.wp Tryz.prog (validK 4) (bodyPost Tryz.prog Tryz.f44 (ValidPost c b w0)) ⟨(c0::(.func (.func g) #[] cap)::(.pointer (some ⟨b2, 0, none⟩))::c3::c4::c5::(.int .i64 (clashE c.riv))::c7::c8::c9::c10::c11::c12::c13::c14::c15::c16::c17::c18::c19::c20::c21::c22::c23::c24::c25::c26::c27::c28::c29::c30::c31::c32::c33::c34::c35::c36::c37::c38::c39::c40::c41::c42::c43::c44::c45::c46::c47::c48::c49::c50::c51::c52::c53::c54::c55::c56::c57::c58::c59::c60::c61::c62::c63::c64::c65::c66::c67::c68::c69::c70::c71::c72::c73::c74::c75::c76::c77::c78::c79::c80::c81::c82::c83::c84::c85::c86::c87::c88::c89::c90::c91::c92::c93::c94::c95::c96::c97::c98::c99::c100::c101::c102::c103::c104::c105::c106::c107::c108::c109::c110::c111::c112::c113::[]).toArray, []⟩ w := by
 have htn : tn ≤ 5 := by
  unfold headC at hH; simp only [Bool.and_eq_true, decide_eq_true_eq] at hH; have := hP.etn
  omega
 conv => arg 2; whnf
 conv => arg 2; arg 2; change validK 5
 have HG := Lib.hid hg; have HP := Lib.hid hP; have HE : Hid (c.lt.length = tn) := hP.etn; have HH := Lib.hid (And.intro hH hW); have HB := Lib.hid hb; obtain ⟨E, hE⟩ : ∃ E : Int, E = (clashE c.riv : Int) := ⟨_, rfl⟩; have HEE := Lib.hid hE; have u9 : w.cell? ⟨b2, 9, none⟩ = some (.slice ta tn tc) := hx.cell 9; have l2 := hx.lt; rw [← hE]; clear hg hP hH hW hb hx hE; go_wp2; clear u9 l2
 go_loopw [78] (fun i wr => ∃ j : Nat, j ≤ tn ∧ i = .int .i64 j ∧ Hid ((c.lt.take j).all lotB = true) ∧ Hid (Below w.heap.size w wr)) (fun i _ => tn - (intOf i).toNat)
 case atStart => exact ⟨0, Nat.zero_le _, rfl, by show _ = _; simp, Below.refl _ _⟩
 case round =>
  obtain ⟨j, hj, rfl, HA, HBR⟩ := hrel
  by_cases hlt : j < tn
  ·obtain ⟨l, hl⟩ : ∃ l, c.lt[j]? = some l := ⟨c.lt[j]'(by have := HE.out; omega), by simp⟩
   have HS := Lib.hid (CT_take_all lotB c.lt j l hl)
   have HBAD : Hid (lotB l = false → okC c = false) := fun h => by unfold okC; rw [CT_all_false hl h, Bool.and_false]
   have HBW : Hid (Below w0.heap.size w0 wr) := HB.out.trans (HBR.out.mono HB.out.size); obtain ⟨bk, off, rfl, hbl, H0, H1, H2, H3, H4⟩ := rd_lt (HP.out.hlt.below HBW.out) j l hl; have hbw : bk < wr.heap.size := Nat.lt_of_lt_of_le hbl HBW.out.size; obtain ⟨l0, l1, l3, l4, l5⟩ := l; simp only at H0 H1 H2 H3 H4; obtain ⟨Wd, hWd⟩ : ∃ Wd, Wd = wr.alloc (.cells #[.int .i64 l0, .int .i64 l1, .int .i64 l3, .int .i64 l4, .int .i64 l5] 68) := ⟨_, rfl⟩; obtain ⟨g1, hg1⟩ : ∃ g, g = wr.heap.size := ⟨_, rfl⟩; have HBD : Hid (Below w.heap.size w Wd) := by rw [hWd]; exact HBR.out.alloc HBR.out.size _
   have HBDW : Hid (Below w0.heap.size w0 Wd) := HB.out.trans (HBD.out.mono HB.out.size); have HN : Hid (Blk Wd g1 68 #[.int .i64 l0, .int .i64 l1, .int .i64 l3, .int .i64 l4, .int .i64 l5]) := by rw [hWd, hg1]; exact Blk.new wr 68 _
   have HPB : Hid (okC c = false → ValidPost c b w0 (.panicked [refC 1]) Wd) := fun h => ⟨HBDW.out, .inl ⟨h, rfl⟩⟩
   clear hl hbl; go_upto_region 11 with (fail); rw [← hWd, ← hg1]; clear hWd hg1 H0 H1 H2 H3 H4 hbw; have y0 := HN.out.cell 0; have y1 := HN.out.cell 1; have y2 := HN.out.cell 2; have y3 := HN.out.cell 3; have y4 := HN.out.cell 4; have yl := HN.out.lt; simp at y0 y1 y2 y3 y4; have HKX : Hid True := trivial
   cases h1 : inB l0 0 10
   ·have HPP := Lib.hid (HPB.out (HBAD.out (by unfold lotB; rw [h1, Bool.false_and])))
    go_wp2_with fail; refine (cwithin_any _ _ _ _).mono ?_
    rw [h1]; rintro e w3 ⟨rfl, rfl⟩; go_wp2_with fail; refine (cmust_any false 1 _).mono ?_; rintro e wz ⟨q1, rfl⟩; obtain rfl : e = .panicked [refC 1] := q1; clear HKX; go_wp2; exact ⟨rfl, HPP.out⟩
   ·cases h2 : inB l1 1 20
    ·have HPP := Lib.hid (HPB.out (HBAD.out (by unfold lotB; rw [h1, h2]; rfl)))
     go_wp2_with fail; refine (cwithin_any _ _ _ _).mono ?_
     rw [h1]; rintro e w3 ⟨rfl, rfl⟩; go_wp2_with fail; refine (cwithin_any _ _ _ _).mono ?_; rw [h2]; rintro e w3 ⟨rfl, rfl⟩; go_wp2_with fail; refine (cmust_any false 1 _).mono ?_; rintro e wz ⟨q1, rfl⟩; obtain rfl : e = .panicked [refC 1] := q1; clear HKX; go_wp2; exact ⟨rfl, HPP.out⟩
    ·cases h3 : inB l3 0 50
     ·have HPP := Lib.hid (HPB.out (HBAD.out (by unfold lotB; rw [h1, h2, h3]; rfl)))
      go_wp2_with fail; refine (cwithin_any _ _ _ _).mono ?_
      rw [h1]; rintro e w3 ⟨rfl, rfl⟩; go_wp2_with fail; refine (cwithin_any _ _ _ _).mono ?_; rw [h2]; rintro e w3 ⟨rfl, rfl⟩; go_wp2_with fail; refine (cwithin_any _ _ _ _).mono ?_; rw [h3]; rintro e w3 ⟨rfl, rfl⟩; go_wp2_with fail; refine (cmust_any false 1 _).mono ?_; rintro e wz ⟨q1, rfl⟩; obtain rfl : e = .panicked [refC 1] := q1; clear HKX; go_wp2; exact ⟨rfl, HPP.out⟩
     ·cases h4 : inB l4 0 20
      ·have HPP := Lib.hid (HPB.out (HBAD.out (by unfold lotB; rw [h1, h2, h3, h4]; rfl)))
       go_wp2_with fail; refine (cwithin_any _ _ _ _).mono ?_
       rw [h1]; rintro e w3 ⟨rfl, rfl⟩; go_wp2_with fail; refine (cwithin_any _ _ _ _).mono ?_; rw [h2]; rintro e w3 ⟨rfl, rfl⟩; go_wp2_with fail; refine (cwithin_any _ _ _ _).mono ?_; rw [h3]; rintro e w3 ⟨rfl, rfl⟩; go_wp2_with fail; refine (cwithin_any _ _ _ _).mono ?_; rw [h4]; rintro e w3 ⟨rfl, rfl⟩; go_wp2_with fail; refine (cmust_any false 1 _).mono ?_; rintro e wz ⟨q1, rfl⟩; obtain rfl : e = .panicked [refC 1] := q1; clear HKX; go_wp2; exact ⟨rfl, HPP.out⟩
      ·cases h5 : inB l5 0 l3
       ·have HPP := Lib.hid (HPB.out (HBAD.out (by unfold lotB; rw [h1, h2, h3, h4, h5]; rfl)))
        go_wp2_with fail; refine (cwithin_any _ _ _ _).mono ?_
        rw [h1]; rintro e w3 ⟨rfl, rfl⟩; go_wp2_with fail; refine (cwithin_any _ _ _ _).mono ?_; rw [h2]; rintro e w3 ⟨rfl, rfl⟩; go_wp2_with fail; refine (cwithin_any _ _ _ _).mono ?_; rw [h3]; rintro e w3 ⟨rfl, rfl⟩; go_wp2_with fail; refine (cwithin_any _ _ _ _).mono ?_; rw [h4]; rintro e w3 ⟨rfl, rfl⟩; go_wp2_with fail; refine (cwithin_any _ _ _ _).mono ?_; rw [h5]; rintro e w3 ⟨rfl, rfl⟩; go_wp2_with fail; refine (cmust_any false 1 _).mono ?_; rintro e wz ⟨q1, rfl⟩; obtain rfl : e = .panicked [refC 1] := q1; clear HKX; go_wp2; exact ⟨rfl, HPP.out⟩
       ·have HOK : Hid (lotB ⟨l0, l1, l3, l4, l5⟩ = true) := by show _ = _; unfold lotB; rw [h1, h2, h3, h4, h5]; rfl
        go_wp2_with fail; refine (cwithin_any _ _ _ _).mono ?_
        rw [h1]; rintro e w3 ⟨rfl, rfl⟩; go_wp2_with fail; refine (cwithin_any _ _ _ _).mono ?_; rw [h2]; rintro e w3 ⟨rfl, rfl⟩; go_wp2_with fail; refine (cwithin_any _ _ _ _).mono ?_; rw [h3]; rintro e w3 ⟨rfl, rfl⟩; go_wp2_with fail; refine (cwithin_any _ _ _ _).mono ?_; rw [h4]; rintro e w3 ⟨rfl, rfl⟩; go_wp2_with fail; refine (cwithin_any _ _ _ _).mono ?_; rw [h5]; rintro e w3 ⟨rfl, rfl⟩; clear h1 h2 h3 h4 h5 y0 y1 y2 y3 y4 yl; go_wp2_with fail; refine (cmust_any true 1 _).mono ?_; rintro e wz ⟨q1, rfl⟩; obtain rfl : e = .returned (.tuple #[]) := q1; go_wp2; go_roundw
        case rel => exact ⟨j + 1, by omega, by go_num, by show _ = _; rw [HS.out, HA.out, HOK.out]; rfl, HBD⟩
        case measure => simp [intOf]; omega
  ·obtain rfl : tn = j := by omega
   have HV : Hid (okC c = true) := by
    have h := HA.out; rw [List.take_of_length_le (by rw [HE.out]; exact Nat.le_refl _)] at h
    show _ = _; unfold okC; rw [HH.out.1, HH.out.2, h]
    rfl
   rw [HEE.out]; go_wp2; exact valid5 g cap eg HG.out HV.out (HB.out.trans (HBR.out.mono HB.out.size)) _ _ _ _ _ _ _ _ _ _ _ _ _ _ _ _ _ _ _ _ _ _ _ _ _ _ _ _ _ _ _ _ _ _ _ _ _ _ _ _ _ _ _ _ _ _ _ _ _ _ _ _ _ _ _ _ _ _ _ _ _ _ _ _ _ _ _ _ _ _ _ _ _ _ _ _ _ _ _ _ _ _ _ _ _ _ _ _ _ _ _ _ _ _ _ _ _ _ _ _ _ _ _ _ _ _ _ _ _ _ _ _
end
section
variable {fa la wa ta : Option Addr} {fl fc ll lc wn wc tn tc : Nat} {c : ICart}
variable {w0 : World} {b : Bool}
theorem valid3 (g : Nat) (cap : Array Value) (eg : ∀ args w, (callFunc g args).run Tryz.prog w = .ok (.enter g args) w) (hg : okC c = true → IsQ w0 g cap b) (hP : CtIn w0 w0.heap.size fa fl la ll wa wn ta tn c) (hH : headC c = true) {w : World} {b2 : Nat} (hb : Below w0.heap.size w0 w) (hx : Blk w b2 31 #[.int .i64 c.riv.depth.lo, .int .i64 c.riv.depth.hi, .int .i64 c.riv.fall.lo, .int .i64 c.riv.fall.hi, .int .i64 c.riv.days, .slice fa fl fc, .slice la ll lc, .int .i64 c.draws, .slice wa wn wc, .slice ta tn tc]) (c0 c3 c4 c5 c7 c8 c9 c10 c11 c12 c13 c14 c15 c16 c17 c18 c19 c20 c21 c22 c23 c24 c25 c26 c27 c28 c29 c30 c31 c32 c33 c34 c35 c36 c37 c38 c39 c40 c41 c42 c43 c44 c45 c46 c47 c48 c49 c50 c51 c52 c53 c54 c55 c56 c57 c58 c59 c60 c61 c62 c63 c64 c65 c66 c67 c68 c69 c70 c71 c72 c73 c74 c75 c76 c77 c78 c79 c80 c81 c82 c83 c84 c85 c86 c87 c88 c89 c90 c91 c92 c93 c94 c95 c96 c97 c98 c99 c100 c101 c102 c103 c104 c105 c106 c107 c108 c109 c110 c111 c112 c113 : Value) :
  Code.wp Tryz.prog (validK 3) (bodyPost Tryz.prog Tryz.f44 (ValidPost c b w0)) ⟨(c0::(.func (.func g) #[] cap)::(.pointer (some ⟨b2, 0, none⟩))::c3::c4::c5::(.int .i64 (clashE c.riv))::c7::c8::c9::c10::c11::c12::c13::c14::c15::c16::c17::c18::c19::c20::c21::c22::c23::c24::c25::c26::c27::c28::c29::c30::c31::c32::c33::c34::c35::c36::c37::c38::c39::c40::c41::c42::c43::c44::c45::c46::c47::c48::c49::c50::c51::c52::c53::c54::c55::c56::c57::c58::c59::c60::c61::c62::c63::c64::c65::c66::c67::c68::c69::c70::c71::c72::c73::c74::c75::c76::c77::c78::c79::c80::c81::c82::c83::c84::c85::c86::c87::c88::c89::c90::c91::c92::c93::c94::c95::c96::c97::c98::c99::c100::c101::c102::c103::c104::c105::c106::c107::c108::c109::c110::c111::c112::c113::[]).toArray, []⟩ w := by
 have hwn : wn ≤ 3 := by
  unfold headC at hH; simp only [Bool.and_eq_true, decide_eq_true_eq] at hH; have := hP.ewn
  omega
 conv => arg 2; whnf
 conv => arg 2; arg 2; change validK 4
 have HG := Lib.hid hg; have HP := Lib.hid hP; have HE : Hid (c.wg.length = wn) := hP.ewn; have HH := Lib.hid hH; have HB := Lib.hid hb; have HX := Lib.hid hx; obtain ⟨E, hE⟩ : ∃ E : Int, E = (clashE c.riv : Int) := ⟨_, rfl⟩; have HEE := Lib.hid hE; have u8 : w.cell? ⟨b2, 8, none⟩ = some (.slice wa wn wc) := hx.cell 8; have l2 := hx.lt; rw [← hE]; clear hg hP hH hb hx hE; go_wp2; clear u8 l2
 go_loopw [40] (fun i wr => ∃ j : Nat, j ≤ wn ∧ i = .int .i64 j ∧ Hid ((c.wg.take j).all wagB = true) ∧ Hid (Below w.heap.size w wr)) (fun i _ => wn - (intOf i).toNat)
 case atStart => exact ⟨0, Nat.zero_le _, rfl, by show _ = _; simp, Below.refl _ _⟩
 case round =>
  obtain ⟨j, hj, rfl, HA, HBR⟩ := hrel
  by_cases hlt : j < wn
  ·obtain ⟨l, hl⟩ : ∃ l, c.wg[j]? = some l := ⟨c.wg[j]'(by have := HE.out; omega), by simp⟩
   have HS := Lib.hid (CT_take_all wagB c.wg j l hl)
   have HBAD : Hid (wagB l = false → okC c = false) := fun h => by unfold okC; rw [CT_all_false hl h, Bool.and_false, Bool.false_and]
   have HBW : Hid (Below w0.heap.size w0 wr) := HB.out.trans (HBR.out.mono HB.out.size); obtain ⟨bk, off, rfl, hbl, H0, H1, H2, H3⟩ := rd_wg (HP.out.hwg.below HBW.out) j l hl; have hbw : bk < wr.heap.size := Nat.lt_of_lt_of_le hbl HBW.out.size; obtain ⟨l0, ⟨l1, l2⟩, l3⟩ := l; simp only at H0 H1 H2 H3; obtain ⟨Wd, hWd⟩ : ∃ Wd, Wd = wr.alloc (.cells #[.int .i64 l0, .int .i64 l1, .int .i64 l2, .int .i64 l3] 65) := ⟨_, rfl⟩; obtain ⟨g1, hg1⟩ : ∃ g, g = wr.heap.size := ⟨_, rfl⟩; have HBD : Hid (Below w.heap.size w Wd) := by rw [hWd]; exact HBR.out.alloc HBR.out.size _
   have HBDW : Hid (Below w0.heap.size w0 Wd) := HB.out.trans (HBD.out.mono HB.out.size); have HN : Hid (Blk Wd g1 65 #[.int .i64 l0, .int .i64 l1, .int .i64 l2, .int .i64 l3]) := by rw [hWd, hg1]; exact Blk.new wr 65 _
   have HPB : Hid (okC c = false → ValidPost c b w0 (.panicked [refC 1]) Wd) := fun h => ⟨HBDW.out, .inl ⟨h, rfl⟩⟩
   clear hl hbl; go_upto_region 6 with (fail); rw [← hWd, ← hg1]; clear hWd hg1 H0 H1 H2 H3 hbw; have y0 := HN.out.cell 0; have y1 := HN.out.cell 1; have y2 := HN.out.cell 2; have y3 := HN.out.cell 3; have yl := HN.out.lt; simp at y0 y1 y2 y3
   cases h1 : inB l0 0 10
   ·have HPP := Lib.hid (HPB.out (HBAD.out (by unfold wagB; simp [h1])))
    go_wp2_with fail; refine (cwithin_any _ _ _ _).mono ?_
    rw [h1]; rintro e w3 ⟨rfl, rfl⟩; go_wp2_with fail; refine (cmust_any false 1 _).mono ?_; rintro e wz ⟨qq, rfl⟩; obtain rfl : e = .panicked [refC 1] := qq; go_wp2; exact ⟨rfl, HPP.out⟩
   ·skip
    by_cases h2 : 1 ≤ l1
    ·skip
     by_cases h3 : l1 ≤ l2
     ·skip
      by_cases h4 : l2 ≤ 6
      ·skip
       cases h5 : inB l3 0 30
       ·have HPP := Lib.hid (HPB.out (HBAD.out (by unfold wagB; simp [h1, h2, h3, h4, h5])))
        go_wp2_with fail; refine (cwithin_any _ _ _ _).mono ?_
        rw [h1]; rintro e w3 ⟨rfl, rfl⟩; go_wp2_with fail; refine (cwithin_any _ _ _ _).mono ?_; rw [h5]; rintro e w3 ⟨rfl, rfl⟩; go_wp2_with fail; refine (cmust_any false 1 _).mono ?_; rintro e wz ⟨qq, rfl⟩; obtain rfl : e = .panicked [refC 1] := qq; go_wp2; exact ⟨rfl, HPP.out⟩
       ·skip
        have HOK : Hid (wagB ⟨l0, ⟨l1, l2⟩, l3⟩ = true) := by show _ = _; unfold wagB; simp [h1, h2, h3, h4, h5]
        go_wp2_with fail; refine (cwithin_any _ _ _ _).mono ?_
        rw [h1]; rintro e w3 ⟨rfl, rfl⟩; go_wp2_with fail; refine (cwithin_any _ _ _ _).mono ?_; rw [h5]; rintro e w3 ⟨rfl, rfl⟩; clear h1 h2 h3 h4 h5 y0 y1 y2 y3 yl; go_wp2_with fail; refine (cmust_any true 1 _).mono ?_; rintro e wz ⟨qq, rfl⟩; obtain rfl : e = .returned (.tuple #[]) := qq; go_wp2; go_roundw
        case rel => exact ⟨j + 1, by omega, by go_num, by show _ = _; rw [HS.out, HA.out, HOK.out]; rfl, HBD⟩
        case measure => simp [intOf]; omega
      ·have HPP := Lib.hid (HPB.out (HBAD.out (by unfold wagB; simp [h1, h2, h3, h4])))
       go_wp2_with fail; refine (cwithin_any _ _ _ _).mono ?_
       rw [h1]; rintro e w3 ⟨rfl, rfl⟩; go_wp2_with fail; refine (cmust_any false 1 _).mono ?_; rintro e wz ⟨qq, rfl⟩; obtain rfl : e = .panicked [refC 1] := qq; go_wp2; exact ⟨rfl, HPP.out⟩
     ·have HPP := Lib.hid (HPB.out (HBAD.out (by unfold wagB; simp [h1, h2, h3])))
      go_wp2_with fail; refine (cwithin_any _ _ _ _).mono ?_
      rw [h1]; rintro e w3 ⟨rfl, rfl⟩; go_wp2_with fail; refine (cmust_any false 1 _).mono ?_; rintro e wz ⟨qq, rfl⟩; obtain rfl : e = .panicked [refC 1] := qq; go_wp2; exact ⟨rfl, HPP.out⟩
    ·have HPP := Lib.hid (HPB.out (HBAD.out (by unfold wagB; simp [h1, h2])))
     go_wp2_with fail; refine (cwithin_any _ _ _ _).mono ?_
     rw [h1]; rintro e w3 ⟨rfl, rfl⟩; go_wp2_with fail; refine (cmust_any false 1 _).mono ?_; rintro e wz ⟨qq, rfl⟩; obtain rfl : e = .panicked [refC 1] := qq; go_wp2; exact ⟨rfl, HPP.out⟩
  ·obtain rfl : wn = j := by omega
   have HV : Hid (c.wg.all wagB = true) := by
    have h := HA.out; rw [List.take_of_length_le (by rw [HE.out]; exact Nat.le_refl _)] at h
    exact h
   rw [HEE.out]; go_wp2; exact valid4 g cap eg HG.out HP.out HH.out HV.out (HB.out.trans (HBR.out.mono HB.out.size)) (HX.out.below HBR.out HX.out.lt) _ _ _ _ _ _ _ _ _ _ _ _ _ _ _ _ _ _ _ _ _ _ _ _ _ _ _ _ _ _ _ _ _ _ _ _ _ _ _ _ _ _ _ _ _ _ _ _ _ _ _ _ _ _ _ _ _ _ _ _ _ _ _ _ _ _ _ _ _ _ _ _ _ _ _ _ _ _ _ _ _ _ _ _ _ _ _ _ _ _ _ _ _ _ _ _ _ _ _ _ _ _ _ _ _ _ _ _ _ _ _
theorem valid_any (g : Nat) (cap : Array Value) (eg : ∀ args w, (callFunc g args).run Tryz.prog w = .ok (.enter g args) w) (hg : okC c = true → IsQ w0 g cap b) (hP : CtIn w0 w0.heap.size fa fl la ll wa wn ta tn c) :
  Calls Tryz.prog 44 #[(.agg #[.int .i64 c.riv.depth.lo, .int .i64 c.riv.depth.hi, .int .i64 c.riv.fall.lo, .int .i64 c.riv.fall.hi, .int .i64 c.riv.days, .slice fa fl fc, .slice la ll lc, .int .i64 c.draws, .slice wa wn wc, .slice ta tn tc]), .func (.func g) #[] cap] w0 (ValidPost c b w0) := by
 obtain ⟨W, hW⟩ : ∃ W, W = w0.alloc (.cells #[.int .i64 c.riv.depth.lo, .int .i64 c.riv.depth.hi, .int .i64 c.riv.fall.lo, .int .i64 c.riv.fall.hi, .int .i64 c.riv.days, .slice fa fl fc, .slice la ll lc, .int .i64 c.draws, .slice wa wn wc, .slice ta tn tc] 31) := ⟨_, rfl⟩; obtain ⟨b2, hb2⟩ : ∃ g, g = w0.heap.size := ⟨_, rfl⟩; have HX : Hid (Blk W b2 31 #[.int .i64 c.riv.depth.lo, .int .i64 c.riv.depth.hi, .int .i64 c.riv.fall.lo, .int .i64 c.riv.fall.hi, .int .i64 c.riv.days, .slice fa fl fc, .slice la ll lc, .int .i64 c.draws, .slice wa wn wc, .slice ta tn tc]) := by rw [hW, hb2]; exact Blk.new w0 31 _
 have HB0 : Hid (Below w0.heap.size w0 W) := by rw [hW]; exact (Below.refl _ _).alloc (Nat.le_refl _) _
 have HG := Lib.hid hg; have HP := Lib.hid hP; have m1 := hP.mwn; have m2 := hP.mtn; clear hg hP
 go_enter Tryz.func44, Tryz.ntmps44
 conv => arg 2; whnf
 conv => arg 2; arg 2; arg 2; arg 2; change validK 3
 go_upto_region 1 with (fail); rw [← hW, ← hb2]; clear hW hb2; obtain ⟨q0, q1, q2, q3, q4, q5, q6, q7, q8, q9, ql⟩ := cx31 HX.out; go_wp2_with fail; refine (PClash_any (fa := fa) (fl := fl) (fc := fc) (la := la) (ll := ll) (lc := lc) (r := c.riv) (w := W) (by exact (HP.out.grow HB0.out).riv)).mono ?_
 rintro e w1 ⟨rfl, hb⟩; have HB1 : Hid (Below w0.heap.size w0 w1) := HB0.out.trans (hb.mono HB0.out.size); have HX1 := Lib.hid (HX.out.below hb HX.out.lt); clear q0 q1 q2 q3 q4 q5 q6 q7 q8 q9 ql; clear hb; obtain ⟨q0, q1, q2, q3, q4, q5, q6, q7, q8, q9, ql⟩ := cx31 HX1.out; obtain ⟨CV, hCV⟩ : ∃ CV : Int, CV = (clashV c.riv : Int) := ⟨_, rfl⟩; obtain ⟨E, hE⟩ : ∃ E : Int, E = (clashE c.riv : Int) := ⟨_, rfl⟩; have HEE := Lib.hid hE; rw [← hCV, ← hE]
 have HPB : Hid (okC c = false → ValidPost c b w0 (.panicked [refC 1]) w1) := fun h => ⟨HB1.out, .inl ⟨h, rfl⟩⟩
 cases hr : okR c.riv
 ·have HPP := Lib.hid (HPB.out (by unfold okC headC; rw [hr]; rfl))
  have hE1 : E = 1 := by rw [hE]; unfold clashE; rw [if_pos hr]; rfl
  subst hE1; clear hE hCV; go_wp2_with fail; refine (cmust_any false 1 _).mono ?_; rintro e wz ⟨qq, rfl⟩; obtain rfl : e = .panicked [refC 1] := qq; go_wp2; exact ⟨rfl, HPP.out⟩
 ·have hE1 : (E != 1) = true := by
   have h : E = 0 ∨ E = 4 := by
    rw [hE]; unfold clashE; rw [if_neg (by rw [hr]; decide)]
    split
    ·exact .inl rfl
    ·exact .inr rfl
   rcases h with h | h <;> (rw [h]; rfl)
  clear hE hCV
  cases hd : inB c.draws 0 200
  ·have HPP := Lib.hid (HPB.out (by unfold okC headC isDrB; rw [hr, hd]; rfl))
   go_wp2_with fail; refine (cwithin_any _ _ _ _).mono ?_
   rw [hd]; rintro e w3 ⟨rfl, rfl⟩; go_wp2_with fail; refine (cmust_any false 1 _).mono ?_; rintro e wz ⟨qq, rfl⟩; obtain rfl : e = .panicked [refC 1] := qq; go_wp2; exact ⟨rfl, HPP.out⟩
  ·by_cases h3 : wn ≤ 3
   ·have h3i : (wn : Int) ≤ 3 := by omega
    by_cases h5 : tn ≤ 5
    ·have h5i : (tn : Int) ≤ 5 := by omega
     have HH : Hid (headC c = true) := by show _ = _; unfold headC isDrB; rw [hr, hd]; have e1 := HP.out.ewn; have e2 := HP.out.etn; simp; omega
     have HF : Hid (∀ (c0 c3 c4 c5 c7 c8 c9 c10 c11 c12 c13 c14 c15 c16 c17 c18 c19 c20 c21 c22 c23 c24 c25 c26 c27 c28 c29 c30 c31 c32 c33 c34 c35 c36 c37 c38 c39 c40 c41 c42 c43 c44 c45 c46 c47 c48 c49 c50 c51 c52 c53 c54 c55 c56 c57 c58 c59 c60 c61 c62 c63 c64 c65 c66 c67 c68 c69 c70 c71 c72 c73 c74 c75 c76 c77 c78 c79 c80 c81 c82 c83 c84 c85 c86 c87 c88 c89 c90 c91 c92 c93 c94 c95 c96 c97 c98 c99 c100 c101 c102 c103 c104 c105 c106 c107 c108 c109 c110 c111 c112 c113 : Value), Code.wp Tryz.prog (validK 3) (bodyPost Tryz.prog Tryz.f44 (ValidPost c b w0)) ⟨(c0::(.func (.func g) #[] cap)::(.pointer (some ⟨b2, 0, none⟩))::c3::c4::c5::(.int .i64 E)::c7::c8::c9::c10::c11::c12::c13::c14::c15::c16::c17::c18::c19::c20::c21::c22::c23::c24::c25::c26::c27::c28::c29::c30::c31::c32::c33::c34::c35::c36::c37::c38::c39::c40::c41::c42::c43::c44::c45::c46::c47::c48::c49::c50::c51::c52::c53::c54::c55::c56::c57::c58::c59::c60::c61::c62::c63::c64::c65::c66::c67::c68::c69::c70::c71::c72::c73::c74::c75::c76::c77::c78::c79::c80::c81::c82::c83::c84::c85::c86::c87::c88::c89::c90::c91::c92::c93::c94::c95::c96::c97::c98::c99::c100::c101::c102::c103::c104::c105::c106::c107::c108::c109::c110::c111::c112::c113::[]).toArray, []⟩ w1) := by rw [HEE.out]; exact valid3 g cap eg HG.out HP.out HH.out HB1.out HX1.out
     go_wp2_with fail; refine (cwithin_any _ _ _ _).mono ?_
     rw [hd]; rintro e w3 ⟨rfl, rfl⟩; go_wp2_with fail; refine (cmust_any true 1 _).mono ?_; rintro e wz ⟨qq, rfl⟩; obtain rfl : e = .returned (.tuple #[]) := qq; clear hr hd h3 h3i h5 h5i hE1; clear q0 q1 q2 q3 q4 q5 q6 q7 q8 q9 ql; go_wp2; exact HF.out _ _ _ _ _ _ _ _ _ _ _ _ _ _ _ _ _ _ _ _ _ _ _ _ _ _ _ _ _ _ _ _ _ _ _ _ _ _ _ _ _ _ _ _ _ _ _ _ _ _ _ _ _ _ _ _ _ _ _ _ _ _ _ _ _ _ _ _ _ _ _ _ _ _ _ _ _ _ _ _ _ _ _ _ _ _ _ _ _ _ _ _ _ _ _ _ _ _ _ _ _ _ _ _ _ _ _ _ _ _ _
    ·have h5i : ¬ (tn : Int) ≤ 5 := by omega
     have h5d : decide ((tn : Int) ≤ 5) = false := decide_eq_false h5i; have HPP := Lib.hid (HPB.out (by have e2 := HP.out.etn; unfold okC headC isDrB; rw [hr, hd]; have : decide (c.lt.length ≤ 5) = false := decide_eq_false (by omega); rw [this]; simp))
     go_wp2_with fail; refine (cwithin_any _ _ _ _).mono ?_
     rw [hd]; rintro e w3 ⟨rfl, rfl⟩; go_wp2_with fail; refine (cmust_any false 1 _).mono ?_; rintro e wz ⟨qq, rfl⟩; obtain rfl : e = .panicked [refC 1] := qq; go_wp2; exact ⟨rfl, HPP.out⟩
   ·have h3i : ¬ (wn : Int) ≤ 3 := by omega
    have HPP := Lib.hid (HPB.out (by have e2 := HP.out.ewn; unfold okC headC isDrB; rw [hr, hd]; have : decide (c.wg.length ≤ 3) = false := decide_eq_false (by omega); rw [this]; simp))
    go_wp2_with fail; refine (cwithin_any _ _ _ _).mono ?_
    rw [hd]; rintro e w3 ⟨rfl, rfl⟩; go_wp2_with fail; refine (cmust_any false 1 _).mono ?_; rintro e wz ⟨qq, rfl⟩; obtain rfl : e = .panicked [refC 1] := qq; go_wp2; exact ⟨rfl, HPP.out⟩
end
end Go.Proofs.YtgmfhngcehkibaaGreat
namespace Go.HavG
open Go.RowKit
def RelT : Rel where
 G _ _ := True
 refl _ := trivial
 trans _ _ := trivial
 drew _ := trivial
section
variable {P : Program} {ops : Array Oper}
def wpStg (P : Program) (ops : Array Oper) (I : World → Prop) (Qp : List PanicEntry → World → Prop) (Cont : Act → World → Prop) : List (Nat × Bool) → Act → World → Prop
 | [], a, w => Cont a w
 | (i, g) :: rest, a, w => ∃ o, ops[i]? = some o ∧
  if g then Obl RelT P ops Qp o a w (fun v w' => I w' ∧ wpStg P ops I Qp Cont rest (a.put o.dst v) w')
  else ∃ V : Value, (∀ w, I w → Obl RelT P ops Qp o a w (fun v w' => v = V ∧ w' = w)) ∧ wpStg P ops I Qp Cont rest (a.put o.dst V) w
variable {I : World → Prop} {Qp : List PanicEntry → World → Prop} {Cont : Act → World → Prop}
theorem wpStg_swap {x y : Nat} {g : Bool} {rest : List (Nat × Bool)} {a : Act} {w : World}
  (hsel : Region.noSelect ops = true) (hap : ∀ ox oy, ops[x]? = some ox → ops[y]? = some oy → ox.apart ops oy = true)
  (h : wpStg P ops I Qp Cont ((x, false) :: (y, g) :: rest) a w) : wpStg P ops I Qp Cont ((y, g) :: (x, false) :: rest) a w := by
 obtain ⟨ox, hox, h⟩ := h; simp only [Bool.false_eq_true, if_false] at h; obtain ⟨V, hV, oy, hoy, h⟩ := h; obtain ⟨a1, a2, a3⟩ := Oper.apart_spec (hap ox oy hox hoy)
 have hsx := fun cs b => Region.noSelect_spec hsel x ox cs b hox
 have hsy := fun cs b => Region.noSelect_spec hsel y oy cs b hoy
 refine ⟨oy, hoy, ?_⟩; cases g
 ·simp only [Bool.false_eq_true, if_false] at h ⊢; obtain ⟨U, hU, h⟩ := h
  refine ⟨U, fun w h1 => Obl.of_put hsy a1 (hU w h1), ox, hox, ?_⟩
  simp only [Bool.false_eq_true, if_false]
  refine ⟨V, fun w h1 => Obl.to_put hsx a3 (fun d hd e => a2 d e hd) (hV w h1), ?_⟩
  rw [← Act.put_comm a V U a2]; exact h
 ·simp only [if_true] at h ⊢
  refine (Obl.of_put hsy a1 h).weaken fun v w' _ ⟨hI, hr⟩ => ⟨hI, ox, hox, ?_⟩
  simp only [Bool.false_eq_true, if_false]
  refine ⟨V, fun w h1 => Obl.to_put hsx a3 (fun d hd e => a2 d e hd) (hV w h1), ?_⟩
  rw [← Act.put_comm a V v a2]; exact hr
theorem wpStg_front {y : Nat} {g : Bool} (hsel : Region.noSelect ops = true) :
  ∀ (pre rest : List (Nat × Bool)) (a : Act) (w : World), (∀ x ∈ pre, x.2 = false ∧ ∀ ox oy, ops[x.1]? = some ox → ops[y]? = some oy → ox.apart ops oy = true) →
   wpStg P ops I Qp Cont (pre ++ (y, g) :: rest) a w → wpStg P ops I Qp Cont ((y, g) :: (pre ++ rest)) a w := by
 intro pre
 induction pre with
 | nil => intro rest a w _ h; exact h
 | cons x pre ih =>
  intro rest a w hp h; obtain ⟨x, gx⟩ := x; obtain ⟨hg, hap⟩ := hp (x, gx) (by simp)
  simp only at hg; subst hg; refine wpStg_swap hsel hap ?_; simp only [List.cons_append, wpStg, Bool.false_eq_true, if_false] at h ⊢; obtain ⟨ox, hox, V, hV, h⟩ := h
  exact ⟨ox, hox, V, hV, ih rest _ _ (fun z hz => hp z (List.mem_cons_of_mem _ hz)) h⟩
theorem stg_any {Q : Exit → Act → World → Prop} {a0 : Act} {S : List Nat} (hsel : Region.noSelect ops = true)
  (hlow : ∀ i o e, ops[i]? = some o → e ∈ o.after → Region.binds .any e = true → e.on < i) (hQ : ∀ ch a w, Agree ops S a0 a → Qp ch w → Q (.panic ch) a w)
  (τ : List Nat) (hch : chainOk (Region.before ops) τ = true) (hlt : ∀ i ∈ τ, i < ops.size) :
  ∀ (n : Nat) (π : List (Nat × Bool)) (listed : Array Bool) (a : Act) (w : World), π.length = n → listed.size = ops.size → Closed ops listed → pairsOk ops (Region.before ops) π = true →
   (∀ t ∈ τ, ∀ x ∈ π, t ≠ x.1 ∧ ((Region.before ops).getD t 0).testBit x.1 = true) → (∀ x ∈ π, x.1 < ops.size) → (∀ x ∈ π, x.1 ∈ S) → (∀ i, i < ops.size → (¬ listed.getD i false = true ↔ i ∈ π.map (·.1) ∨ i ∈ τ)) →
   I w → Agree ops S a0 a → wpStg P ops I Qp (fun a w => wpList P ops Q (τ.filterMap (ops[·]?)) a w) π a w → wpAny P .any ops Q (n + τ.length) listed a w := by
 intro n
 induction n with
 | zero =>
  intro π listed a w hn hsz hcl _ _ _ _ hun _ _ h; obtain rfl : π = [] := List.eq_nil_of_length_eq_zero hn; rw [Nat.zero_add]
  exact tail_any hlow τ listed a w hsz hcl hch (fun i hi => by simpa using hun i hi) hlt h
 | succ n ih =>
  intro π listed a w hn hsz hcl hpo hτ hπ hS hun hI hag h
  have hne : Region.ready .any ops listed ≠ [] := by
   match π, hn with
   | x :: π', _ =>
    have hx := hπ x (by simp)
    exact ready_some hsz hlow hx ((hun x.1 hx).2 (.inl (by simp)))
  rw [show n + 1 + τ.length = (n + τ.length) + 1 by omega]
  refine ⟨fun h0 => absurd h0 hne, fun i hi => ?_⟩
  obtain ⟨h0, o, ho, _⟩ := mem_ready.1 hi; have hil := (Array.getElem?_eq_some_iff.1 ho).1; have hiu := (getD_false_iff (by omega)).1 h0
  have hmem : i ∈ π.map (·.1) := by
   rcases (hun i hil).1 hiu with h1 | h1
   ·exact h1
   ·exfalso
    match π, hn with
    | x :: π', _ =>
     have hx := hπ x (by simp)
     exact ((hun x.1 hx).2 (.inl (by simp))) (ready_deps hcl hi (hτ i h1 x (by simp)).2)
  obtain ⟨⟨i', g⟩, hm, rfl⟩ := List.mem_map.1 hmem
  simp only at *
  obtain ⟨pre, rest, rfl⟩ := List.append_of_mem hm
  have hpre : ∀ (pre : List (Nat × Bool)) (rest : List (Nat × Bool)), pairsOk ops (Region.before ops) (pre ++ (i', g) :: rest) = true → (∀ x ∈ pre, x.1 < ops.size ∧ ¬ listed.getD x.1 false = true) →
    (∀ x ∈ pre, x.2 = false ∧ ∀ ox oy, ops[x.1]? = some ox → ops[i']? = some oy → ox.apart ops oy = true) ∧ pairsOk ops (Region.before ops) (pre ++ rest) = true ∧ i' ∉ (pre ++ rest).map (·.1) := by
   intro pre
   induction pre with
   | nil =>
    intro rest hp _; simp only [List.nil_append, pairsOk, Bool.and_eq_true, List.all_eq_true, bne_iff_ne] at hp ⊢
    refine ⟨by simp, hp.2, fun hc => ?_⟩
    obtain ⟨y, hy, he⟩ := List.mem_map.1 hc; exact (hp.1 y hy).1 he
   | cons x pre ihp =>
    intro rest hp hx; obtain ⟨x, gx⟩ := x; simp only [List.cons_append, pairsOk, Bool.and_eq_true, List.all_eq_true, bne_iff_ne] at hp
    obtain ⟨r1, r2, r3⟩ := ihp rest hp.2 (fun z hz => hx z (List.mem_cons_of_mem _ hz))
    have h1 := hp.1 (i', g) (by simp)
    have hnd : ((Region.before ops).getD i' 0).testBit x = false := by
     cases hb : ((Region.before ops).getD i' 0).testBit x
     ·rfl
     ·exact absurd (ready_deps hcl hi hb) (hx (x, gx) (by simp)).2
    simp only [hnd, Bool.false_or, Bool.and_eq_true, Bool.not_eq_true'] at h1
    refine ⟨fun z hz => ?_, ?_, ?_⟩
    ·rcases List.mem_cons.1 hz with rfl | hz
     ·exact ⟨h1.2.1, fun ox oy hox hoy => by simpa [hox, hoy] using h1.2.2⟩
     ·exact r1 z hz
    ·simp only [List.cons_append, pairsOk, Bool.and_eq_true, List.all_eq_true, bne_iff_ne]
     refine ⟨fun y hy => hp.1 y ?_, r2⟩
     rcases List.mem_append.1 hy with hy | hy
     ·exact List.mem_append_left _ hy
     ·exact List.mem_append_right _ (List.mem_cons_of_mem _ hy)
    ·simp only [List.cons_append, List.map_cons, List.mem_cons, not_or]; exact ⟨h1.1, r3⟩
  obtain ⟨q1, q2, q3⟩ := hpre pre rest hpo (fun x hx => ⟨hπ x (List.mem_append_left _ hx), (hun x.1 (hπ x (List.mem_append_left _ hx))).2 (.inl (List.mem_map.2 ⟨x, List.mem_append_left _ hx, rfl⟩))⟩)
  have hf := wpStg_front hsel pre rest a w q1 h; obtain ⟨o', ho', hf⟩ := hf; rw [ho] at ho'; obtain rfl := Option.some.inj ho'
  have next : ∀ (v : Value) (w' : World), I w' → wpStg P ops I Qp (fun a w => wpList P ops Q (τ.filterMap (ops[·]?)) a w) (pre ++ rest) (a.put o.dst v) w' →
    wpAny P .any ops Q (n + τ.length) (listed.setIfInBounds i' true) (a.put o.dst v) w' := fun v w' hs1 hs4 => by
   refine ih (pre ++ rest) _ _ w' (by simp at hn ⊢; omega) (by simpa using hsz) (hcl.step hi) q2 (fun t ht x hx => hτ t ht x ?_) (fun x hx => hπ x ?_) (fun x hx => hS x ?_) (fun k hk => ?_) hs1 (hag.put (hS (i', g) (by simp)) ho v) hs4
   ·rcases List.mem_append.1 hx with hx | hx
    ·exact List.mem_append_left _ hx
    ·exact List.mem_append_right _ (List.mem_cons_of_mem _ hx)
   ·rcases List.mem_append.1 hx with hx | hx
    ·exact List.mem_append_left _ hx
    ·exact List.mem_append_right _ (List.mem_cons_of_mem _ hx)
   ·rcases List.mem_append.1 hx with hx | hx
    ·exact List.mem_append_left _ hx
    ·exact List.mem_append_right _ (List.mem_cons_of_mem _ hx)
   ·by_cases hik : i' = k
    ·subst hik; rw [Array.getD_eq_getD_getElem?, Array.getElem?_setIfInBounds_self_of_lt (by omega)]
     simp only [Option.getD_some, not_true_eq_false, false_iff, not_or]
     exact ⟨q3, fun h1 => (hτ i' h1 (i', g) (by simp)).1 rfl⟩
    ·rw [getD_set_ne false hik, hun k hk]
     simp [Ne.symm hik]
  have fin : ∀ (Φ : Value → World → Prop) , Obl RelT P ops Qp o a w Φ → (∀ v w', Φ v w' → wpAny P .any ops Q (n + τ.length) (listed.setIfInBounds i' true) (a.put o.dst v) w') →
    wpOp P ops Q i' (wpAny P .any ops Q (n + τ.length) (listed.setIfInBounds i' true)) a w := fun Φ hO hN => by
   unfold wpOp; simp only [ho]; unfold Obl stepOf at hO
   split
   ·rename_i hw
    rw [if_pos hw] at hO
    exact .inl (Oper.wp_mono (fun a' w' ⟨v, e, _, h2⟩ => by rw [e]; exact hN v w' h2) (wp_of_Qh (fun ch w' hc => hQ ch a w' hag hc) hO))
   ·rename_i hw
    rw [if_neg hw] at hO; obtain ⟨v, e, _, h2⟩ := hO; rw [e]; exact hN v w h2
  cases g
  ·simp only [Bool.false_eq_true, if_false] at hf; obtain ⟨V, hV, hf⟩ := hf
   exact fin _ (hV w hI) fun v w' h2 => by rw [h2.1, h2.2]; exact next V w hI hf
  ·simp only [if_true] at hf
   exact fin _ hf fun v w' h2 => next v w' h2.1 h2.2
theorem wp_region_stg {Q : Exit → Act → World → Prop} (I : World → Prop) (π : List (Nat × Bool)) (τ : List Nat) (Qp : List PanicEntry → World → Prop) {id : Nat} {a : Act} {w : World} (hm : P.follows .mixedOrders = true) (hok : havOk ops π τ = true)
  (hQ : ∀ ch a' w', Agree ops (π.map (·.1)) a a' → Qp ch w' → Q (.panic ch) a' w') (hI : I w.drew)
  (h : wpStg P ops I Qp (fun a w => wpList P ops Q (τ.filterMap (ops[·]?)) a w) π a w.drew) : (Code.region id ops true).wp P Q a w := by
 simp only [havOk, Bool.and_eq_true, List.all_eq_true, List.mem_range, Bool.or_eq_true, List.any_eq_true, beq_iff_eq, decide_eq_true_eq, bne_iff_ne, List.contains_iff_mem] at hok; obtain ⟨c1, c2, c3, c4, c5, ⟨c6, c7⟩, c8, c9⟩ := hok
 have hlow : ∀ i o e, ops[i]? = some o → e ∈ o.after → Region.binds .any e = true → e.on < i := fun i o e ho he hb => by
  have h1 := c9 i (Array.getElem?_eq_some_iff.1 ho).1; simp only [ho, Array.all_eq_true_iff_forall_mem, Bool.or_eq_true, Bool.not_eq_true', decide_eq_true_eq] at h1; exact (h1 e he).resolve_left (by simp [hb])
 refine wp_region_any hm ?_; rw [← c8]
 refine stg_any (a0 := a) (Qp := Qp) c1 hlow hQ τ c3 c7 π.length π _ a _ rfl (by simp [c8]) ?_ c2 c4 c6 (fun x hx => List.mem_map.2 ⟨x, hx, rfl⟩) (fun i hi => ?_) hI ⟨rfl, rfl, fun _ _ => rfl⟩ h
 ·intro i o e _ hl
  simp [Array.getD_eq_getD_getElem?, Array.getElem?_replicate] at hl
  split at hl <;> simp at hl
 ·have hr : ¬ (Array.replicate (π.length + τ.length) false).getD i false = true := by
   simp [Array.getD_eq_getD_getElem?, Array.getElem?_replicate]
   split <;> rfl
  refine ⟨fun _ => ?_, fun _ => by simpa [c8] using hr⟩
  rcases c5 i hi with ⟨x, hx, he⟩ | hx
  ·exact .inl (List.mem_map.2 ⟨x, hx, he⟩)
  ·exact .inr hx
theorem stg_same {i : Nat} {rest : List (Nat × Bool)} {a : Act} {w : World} {o : Oper} {V : Value} (ho : ops[i]? = some o) (hw : Region.wanted o (yielded ops a.tmps) = true)
  (h1 : ∀ w, I w → (execOp a.eval o).run P w = .ok (.value V) w) (h2 : wpStg P ops I Qp Cont rest (a.put o.dst V) w) : wpStg P ops I Qp Cont ((i, false) :: rest) a w :=
 ⟨o, ho, by
  simp only [Bool.false_eq_true, if_false]
  exact ⟨V, fun w hI => Obl.of_K fun K hK => by unfold stepOf Oper.wp; rw [if_pos hw, h1 w hI]; exact hK V w trivial ⟨rfl, rfl⟩, h2⟩⟩
theorem stg_skip {i : Nat} {rest : List (Nat × Bool)} {a : Act} {w : World} {o : Oper} (ho : ops[i]? = some o) (hw : Region.wanted o (yielded ops a.tmps) = false)
  (h2 : wpStg P ops I Qp Cont rest (a.put o.dst undef) w) : wpStg P ops I Qp Cont ((i, false) :: rest) a w :=
 ⟨o, ho, by
  simp only [Bool.false_eq_true, if_false]
  exact ⟨undef, fun w _ => Obl.of_K fun K hK => by unfold stepOf; rw [if_neg (by rw [hw]; exact Bool.false_ne_true)]; exact hK undef w trivial ⟨rfl, rfl⟩, h2⟩⟩
theorem stg_call {i : Nat} {rest : List (Nat × Bool)} {a : Act} {w : World} {o : Oper} {f : FuncId} {args : Array Value} (ho : ops[i]? = some o) (hw : Region.wanted o (yielded ops a.tmps) = true)
  (h0 : (execOp a.eval o).run P w = .ok (.enter f args) w)
  (h1 : Calls P f args w fun e w' => (∃ v, e = .returned v ∧ I w' ∧ wpStg P ops I Qp Cont rest (a.put o.dst v) w') ∨ (∃ ch, e = .panicked ch ∧ Qp ch w')) : wpStg P ops I Qp Cont ((i, true) :: rest) a w :=
 ⟨o, ho, by
  simp only [if_true]
  exact Obl.of_K fun K hK => by
   unfold stepOf Oper.wp; rw [if_pos hw, h0]; simp only [Oper.upon]; refine h1.mono ?_; rintro e w' (⟨v, rfl, hb, hp⟩ | ⟨ch, rfl, hp⟩)
   ·exact hK v w' trivial ⟨hb, hp⟩
   ·exact hp⟩
theorem stg_val {i : Nat} {rest : List (Nat × Bool)} {a : Act} {w w' : World} {o : Oper} {v : Value} (ho : ops[i]? = some o) (hw : Region.wanted o (yielded ops a.tmps) = true)
  (h0 : (execOp a.eval o).run P w = .ok (.value v) w') (hI : I w') (h1 : wpStg P ops I Qp Cont rest (a.put o.dst v) w') : wpStg P ops I Qp Cont ((i, true) :: rest) a w :=
 ⟨o, ho, by
  simp only [if_true]
  exact Obl.of_K fun K hK => by
   unfold stepOf Oper.wp; rw [if_pos hw, h0]
   exact hK v w' trivial ⟨hI, h1⟩⟩
end
end Go.HavG
namespace Go.Proofs.YtgmfhngcehkibaaGreat
open Go.RowKit Go.Hav Go.Shelf Go.Sq
attribute [local go_sem] Oper.semAt_some
def openE (c : ICart) (is : Bool) : Nat := if okC c = false then 1 else if is = false then 2 else if hasT c = false then 10 else 0
section
variable {fa la wa ta : Option Addr} {fl fc ll lc wn wc tn tc : Nat} {c : ICart}
variable {w0 : World} {b : Bool}
def COpenPost (fa : Option Addr) (fl fc : Nat) (la : Option Addr) (ll lc : Nat) (wa : Option Addr) (wn wc : Nat) (ta : Option Addr) (tn tc : Nat) (c : ICart) (b : Bool) (w : World) (e : Ending) (w' : World) : Prop :=
 Below w.heap.size w w' ∧ ((openE c b ≠ 0 ∧ e = .panicked [refC (openE c b)]) ∨ (openE c b = 0 ∧ ∃ d, e = .returned (.pointer (some ⟨d, 0, none⟩)) ∧ w.heap.size ≤ d ∧ Blk w' d 123 #[.int .i64 c.riv.depth.lo, .int .i64 c.riv.depth.hi, .int .i64 c.riv.fall.lo, .int .i64 c.riv.fall.hi, .int .i64 c.riv.days, .slice fa fl fc, .slice la ll lc, .int .i64 c.draws, .slice wa wn wc, .slice ta tn tc, .int .i64 (surelyP c.riv.nat c.draws.toNat : Nat), .int .i64 (perhapsP c.riv.nat c.draws.toNat : Nat)]))
theorem openE_zero (h : openE c b = 0) : okC c = true ∧ b = true ∧ hasT c = true := by
 unfold openE at h
 cases h1 : okC c
 ·rw [h1] at h; simp at h
 ·cases h2 : b
  ·rw [h1, h2] at h; simp at h
  ·cases h3 : hasT c
   ·rw [h1, h2, h3] at h; simp at h
   ·exact ⟨rfl, rfl, rfl⟩
theorem copen_any (g : Nat) (cap : Array Value) (eg : ∀ args w, (callFunc g args).run Tryz.prog w = .ok (.enter g args) w) (hg : okC c = true → IsQ w0 g cap b) (hP : CtIn w0 w0.heap.size fa fl la ll wa wn ta tn c) :
  Calls Tryz.prog 51 #[(.agg #[.int .i64 c.riv.depth.lo, .int .i64 c.riv.depth.hi, .int .i64 c.riv.fall.lo, .int .i64 c.riv.fall.hi, .int .i64 c.riv.days, .slice fa fl fc, .slice la ll lc, .int .i64 c.draws, .slice wa wn wc, .slice ta tn tc]), .func (.func g) #[] cap] w0 (COpenPost fa fl fc la ll lc wa wn wc ta tn tc c b w0) := by
 obtain ⟨W, hW⟩ : ∃ W, W = w0.alloc (.cells #[.int .i64 c.riv.depth.lo, .int .i64 c.riv.depth.hi, .int .i64 c.riv.fall.lo, .int .i64 c.riv.fall.hi, .int .i64 c.riv.days, .slice fa fl fc, .slice la ll lc, .int .i64 c.draws, .slice wa wn wc, .slice ta tn tc] 31) := ⟨_, rfl⟩; obtain ⟨b2, hb2⟩ : ∃ g, g = w0.heap.size := ⟨_, rfl⟩; have HX : Hid (Blk W b2 31 #[.int .i64 c.riv.depth.lo, .int .i64 c.riv.depth.hi, .int .i64 c.riv.fall.lo, .int .i64 c.riv.fall.hi, .int .i64 c.riv.days, .slice fa fl fc, .slice la ll lc, .int .i64 c.draws, .slice wa wn wc, .slice ta tn tc]) := by rw [hW, hb2]; exact Blk.new w0 31 _
 have HB0 : Hid (Below w0.heap.size w0 W) := by rw [hW]; exact (Below.refl _ _).alloc (Nat.le_refl _) _
 have HG : Hid (okC c = true → IsQ W g cap b) := fun h wq hq => hg h wq (HB0.out.trans (hq.mono HB0.out.size))
 have HP := Lib.hid hP; clear hg hP
 go_enter Tryz.func51, Tryz.ntmps51
 go_upto_region 1 with (fail); rw [← hW, ← hb2]; clear hW hb2; obtain ⟨q0, q1, q2, q3, q4, q5, q6, q7, q8, q9, ql⟩ := cx31 HX.out; go_wp2_with fail; refine (valid_any (fc := fc) (lc := lc) (wc := wc) (tc := tc) (w0 := W) (b := b) g cap eg (by exact HG.out) (by exact HP.out.grow HB0.out)).mono ?_
 rintro e w1 ⟨hb, (⟨h1, rfl⟩ | ⟨h1, h2, rfl⟩ | ⟨h1, h2, rfl⟩)⟩
 ·have HPP : Hid (COpenPost fa fl fc la ll lc wa wn wc ta tn tc c b w0 (.panicked [refC 1]) w1) := by
   have e1 : openE c b = 1 := by unfold openE; rw [if_pos h1]
   exact ⟨HB0.out.trans (hb.mono HB0.out.size), .inl ⟨by omega, by rw [e1]; rfl⟩⟩
  clear hb h1; go_wp2; exact ⟨rfl, HPP.out⟩
 ·have HPP : Hid (COpenPost fa fl fc la ll lc wa wn wc ta tn tc c b w0 (.panicked [refC 2]) w1) := by
   have e1 : openE c b = 2 := by unfold openE; rw [if_neg (by rw [h1]; decide), if_pos h2]
   exact ⟨HB0.out.trans (hb.mono HB0.out.size), .inl ⟨by omega, by rw [e1]; rfl⟩⟩
  clear hb h1 h2; go_wp2; exact ⟨rfl, HPP.out⟩
 ·have HB1 : Hid (Below w0.heap.size w0 w1) := HB0.out.trans (hb.mono HB0.out.size); have HX1 := Lib.hid (HX.out.below hb HX.out.lt); clear q0 q1 q2 q3 q4 q5 q6 q7 q8 q9 ql; clear hb
  cases ht : hasT c
  ·have HPP : Hid (COpenPost fa fl fc la ll lc wa wn wc ta tn tc c b w0 (.panicked [refC 10]) w1) := by
    have e1 : openE c b = 10 := by unfold openE; rw [if_neg (by rw [h1]; decide), if_neg (by rw [h2]; decide), if_pos ht]
    exact ⟨HB1.out, .inl ⟨by omega, by rw [e1]; rfl⟩⟩
   clear h1 h2 ht; go_wp2_with fail; refine (cmust_any false 10 _).mono ?_; rintro e wz ⟨qq, rfl⟩; obtain rfl : e = .panicked [refC 10] := qq; go_wp2; exact ⟨rfl, HPP.out⟩
  ·obtain ⟨S, hS⟩ : ∃ S : Int, S = (surelyP c.riv.nat c.draws.toNat : Nat) := ⟨_, rfl⟩; obtain ⟨Q, hQ⟩ : ∃ S : Int, S = (perhapsP c.riv.nat c.draws.toNat : Nat) := ⟨_, rfl⟩
   have hD : Value.tuple #[.int .i64 (surelyV c.riv c.draws), .int .i64 (perhapsV c.riv c.draws), .int .i64 (daysE c.riv c.draws)] = .tuple #[.int .i64 S, .int .i64 Q, .int .i64 0] := by
    have hd := (okC_parts h1).2.1; have e : daysE c.riv c.draws = 0 := toldE_fine (okC_parts h1).1 hd (of_decide_eq_true ht); unfold surelyV perhapsV; rw [if_pos e, if_pos e, e, hS, hQ]
    rfl
   have HD := Lib.hid hD; have e1 : openE c b = 0 := by unfold openE; rw [if_neg (by rw [h1]; decide), if_neg (by rw [h2]; decide), if_neg (by rw [ht]; decide)]
   have HE := Lib.hid e1; have HSQ : Hid (S = (surelyP c.riv.nat c.draws.toNat : Nat) ∧ Q = (perhapsP c.riv.nat c.draws.toNat : Nat)) := ⟨hS, hQ⟩; clear h1 h2 ht e1 hS hQ hD; obtain ⟨q0, q1, q2, q3, q4, q5, q6, q7, q8, q9, ql⟩ := cx31 HX1.out; go_wp2_with fail; refine (cmust_any true 10 _).mono ?_; rintro e wz ⟨qq, rfl⟩; obtain rfl : e = .returned (.tuple #[]) := qq; go_wp2_with fail; refine (PDays_any (fa := fa) (fl := fl) (fc := fc) (la := la) (ll := ll) (lc := lc) (r := c.riv) (w := wz) c.draws (by exact (HP.out.grow HB1.out).riv)).mono ?_
   rw [HD.out]; rintro e w2 ⟨rfl, hb⟩; have HB2 : Hid (Below w0.heap.size w0 w2) := HB1.out.trans (hb.mono HB1.out.size); have HX2 := Lib.hid (HX1.out.below hb HX1.out.lt); clear q0 q1 q2 q3 q4 q5 q6 q7 q8 q9 ql; clear hb; obtain ⟨q0, q1, q2, q3, q4, q5, q6, q7, q8, q9, ql⟩ := cx31 HX2.out; go_wp2_with fail; refine (cmust_any true 0 _).mono ?_; rintro e wy ⟨qq, rfl⟩; obtain rfl : e = .returned (.tuple #[]) := qq; obtain ⟨W3, hW3⟩ : ∃ W, W = wy.alloc (.cells #[.int .i64 c.riv.depth.lo, .int .i64 c.riv.depth.hi, .int .i64 c.riv.fall.lo, .int .i64 c.riv.fall.hi, .int .i64 c.riv.days, .slice fa fl fc, .slice la ll lc, .int .i64 c.draws, .slice wa wn wc, .slice ta tn tc, .int .i64 S, .int .i64 Q] 123) := ⟨_, rfl⟩
   have HFIN : Hid (COpenPost fa fl fc la ll lc wa wn wc ta tn tc c b w0 (.returned (.pointer (some ⟨wy.heap.size, 0, none⟩))) W3) := by
    refine ⟨by rw [hW3]; exact HB2.out.alloc HB2.out.size _, .inr ⟨HE.out, wy.heap.size, rfl, HB2.out.size, ?_⟩⟩
    rw [← HSQ.out.1, ← HSQ.out.2, hW3]; exact Blk.new wy 123 _
   go_wp2; go_ret
   rw [← hW3]; exact HFIN.out
end
theorem comes_any (l0 l1 l2 l3 : Int) (h0 : 0 ≤ l0 ∧ l0 ≤ 10) (h1 : 0 ≤ l1 ∧ l1 ≤ 6) (h2 : 0 ≤ l2 ∧ l2 ≤ 6) (w : World) :
  Calls Tryz.prog 47 #[.agg #[.int .i64 l0, .int .i64 l1, .int .i64 l2, .int .i64 l3]] w fun e w' => e = .returned (.agg #[.int .i64 (l0 + l1), .int .i64 (l0 + l2)]) ∧ Below w.heap.size w w' := by
 obtain ⟨a0, a1⟩ := h0; obtain ⟨a2, a3⟩ := h1; obtain ⟨a4, a5⟩ := h2; have u1 : IntKind.i64.wrap (l0 + l1) = l0 + l1 := IntWalk.i64_in _ (by omega)
 have u2 : IntKind.i64.wrap (l0 + l2) = l0 + l2 := IntWalk.i64_in _ (by omega)
 obtain ⟨W, hW⟩ : ∃ W, W = (w.alloc (.cells #[.int .i64 l0, .int .i64 l1, .int .i64 l2, .int .i64 l3] 65)).alloc (.cells #[.int .i64 0, .int .i64 0] 23) := ⟨_, rfl⟩; obtain ⟨b1, hb1⟩ : ∃ b, b = w.heap.size := ⟨_, rfl⟩; obtain ⟨b2, hb2⟩ : ∃ b, b = w.heap.size + 1 := ⟨_, rfl⟩; have HX : Hid (Blk W b1 65 #[.int .i64 l0, .int .i64 l1, .int .i64 l2, .int .i64 l3]) := by rw [hW, hb1]; exact (Blk.new w 65 _).alloc _
 have HY : Hid (Blk W b2 23 #[.int .i64 0, .int .i64 0]) := by rw [hW, hb2]; exact Blk.new_ (by simp) 23 _
 have HB : Hid (Below w.heap.size w W) := by rw [hW]; exact ((Below.refl _ _).alloc (Nat.le_refl _) _).alloc (by simp) _
 have hn : w.heap.size ≤ b2 := by omega
 go_enter Tryz.func47, Tryz.ntmps47
 go_upto_region 1 with (fail); rw [← hb2, ← hb1, ← hW]; clear hW hb1 hb2; have x0 := HX.out.cell 0; have x1 := HX.out.cell 1; have x2 := HX.out.cell 2; have xl := HX.out.lt; have y0 := HY.out.cell 0; have y1 := HY.out.cell 1; have f0 := HY.out.frozen 0; have f1 := HY.out.frozen 1; have yl := HY.out.lt; simp at x0 x1 x2 y0 y1; go_wp2; obtain ⟨W9, hW9⟩ : ∃ W9, W9 = (W.setCell ⟨b2, 0, none⟩ (.int .i64 (l0 + l1))).setCell ⟨b2, 1, none⟩ (.int .i64 (l0 + l2)) := ⟨_, rfl⟩; rw [← hW9]; have hk : Blk W9 b2 23 #[.int .i64 (l0 + l1), .int .i64 (l0 + l2)] := by rw [hW9]; have h := (HY.out.set_ 0 (.int .i64 (l0 + l1))).set_ 1 (.int .i64 (l0 + l2)); simpa using h
 have hb9 : Below w.heap.size w W9 := by rw [hW9]; exact (HB.out.setCell (p := ⟨b2, 0, none⟩) hn _).setCell (p := ⟨b2, 1, none⟩) hn _
 have g0 := hk.cell 0; have g1 := hk.cell 1; simp at g0 g1; exact bodyPost_ret (by simp [results, Tryz.results47, go_sem, g0, g1]) rfl ⟨rfl, hb9⟩
end Go.Proofs.YtgmfhngcehkibaaGreat
