/- The walks of the classer's small functions: within, ask, isBale, every, at, step, sum, plus, least, own, after. Conditions: what a line is. The walks of the classer's steps: every, isBale, step, own. Conditions: what a line is. The walks of the classer's costs: of a bale by itself, of both, of what drifts, of what leads to a bale. Conditions: the bale is valid, costs are no more than far. The walks of the classer's steps from bale to bale: what drifts, what leads to a bale. Conditions: the bale is valid, costs are no more than far, the drift is small. -/
import Derived.Test.YtbfjebglaimcmaaClsM
import Derived.BigRegion
namespace Go.Proofs.Ytbfjebglaimcmaa
open Go.RowKit Go.Hav Go.Sq
attribute [local go_sem] Oper.semAt_some
theorem Blk.turn {S : Nat → Prop} {X Y : World} {g : Nat} {t : TypeId} {cs : Array Value} (h : Blk X g t cs) (k : Turn S X Y) (hs : ¬ S g) : Blk Y g t cs := (k.block g h.lt hs).trans h
theorem withinC_any (n lo hi : Int) (w : World) :
    Calls Try.prog 128 #[.int .i64 n, .int .i64 lo, .int .i64 hi] w fun e w' => e = .returned (.bool (inB n lo hi)) ∧ w' = w := by
  by_cases h1 : lo ≤ n
  · have hl : decide (lo ≤ n) = true := by simp [h1]
    go_enter Try.func128, Try.ntmps128
    go_wp2
    go_ret
    exact ⟨ret_bool (by simp [inB, h1]), rfl⟩
  · have hl : decide (lo ≤ n) = false := by simp [h1]
    go_enter Try.func128, Try.ntmps128
    go_wp2
    go_ret
    exact ⟨ret_bool (by simp [inB]; omega), rfl⟩
def refC (e : Int) : PanicEntry := { v := .iface 165 (.int .i64 e), recovered := false }
def askC (b : Bool) (e : Int) : Ending := if b then .returned (.tuple #[]) else .panicked [refC e]
theorem askC_any (b : Bool) (e : Int) (w : World) : Calls Try.prog 90 #[.bool b, .int .i64 e] w fun en w' => en = askC b e ∧ w' = w := by
  cases b
  · go_enter Try.func90, Try.ntmps90
    go_wp2
    exact ⟨rfl, rfl, rfl⟩
  · go_enter Try.func90, Try.ntmps90
    go_wp2
    go_end0
    exact ⟨rfl, rfl⟩
theorem always_any (v : Value) (w : World) : Calls Try.prog 89 #[v] w fun e w' => e = .returned (.bool true) ∧ w' = w := by
  go_enter Try.func89, Try.ntmps89
  go_wp2
  go_ret
  exact ⟨rfl, rfl⟩

theorem at_any (f : Nat → Int) (i : Nat) (hi : i < 31) (w : World) : Calls Try.prog 133 #[costV f, .int .i64 i] w fun e w' => e = .returned (.int .i64 (f i)) ∧ Below w.heap.size w w' := by
  have HX : Hid (Blk (w.alloc (.cells (costA f) 162)) w.heap.size 162 (costA f)) := Blk.new w 162 _
  have c0 := HX.out.cell i
  rw [costA_get f hi] at c0
  unfold costV
  go_enter Try.func133, Try.ntmps133
  go_wp2
  go_ret
  exact ⟨rfl, (by repeat (first | exact Below.refl _ _ | assumption | refine Below.drew ?_ | refine below_drewN ?_ _ | refine Below.alloc ?_ (by (try simp) <;> omega) _ | refine Below.setCell ?_ (by (try simp) <;> omega) _ | refine Below.trans ?_ (Below.mono (by assumption) (by (try simp) <;> omega))))⟩
theorem size162 : (Try.prog.info? 162).map (·.size) = some 31 := by kernel_rfl
section
variable {w : World} {g : Nat} {f f2 : Nat → Int}
theorem cost_load (h : Blk w g 162 (costA f)) : (loadVar 162 ⟨g, 0, none⟩).run Try.prog w = .ok (costV f) w :=
  run_loadVar_row _ _ _ _ _ _ _ h Try.underlying162 rfl (by rw [costA_size]; exact size162)
theorem cost_store (h : Blk w g 162 (costA f)) (f2 : Nat → Int) : (storeVar 162 ⟨g, 0, none⟩ (costV f2)).run Try.prog w = .ok () (w.setRow g (costA f2)) :=
  run_storeVar_row _ _ _ _ _ _ h (by rw [costA_size]; exact size162) (by rw [costA_size, costA_size]) (costA_one f2)
theorem cost_loadAt (h : Blk w g 162 (costA f)) : (Instr.loadAt 162 (.pointer (some ⟨g, 0, none⟩))).run Try.prog w = .ok (costV f) w := by
  simp only [Instr.loadAt, Instr.sureAddr, Sem.run_bind, Sem.run_pure, Result.andThen]
  exact cost_load h
theorem cost_storeAt (h : Blk w g 162 (costA f)) (f2 : Nat → Int) : (Instr.storeAt 162 (.pointer (some ⟨g, 0, none⟩)) (costV f2)).run Try.prog w = .ok () (w.setRow g (costA f2)) := by
  simp only [Instr.storeAt, Instr.sureAddr, Sem.run_bind, Sem.run_pure, Result.andThen]
  exact cost_store h f2
end
section
variable {ops : Array Oper} {rest : List Oper} {o : Oper} {a : Act} {w w' : World} {Q : Exit → Act → World → Prop} {g : Nat} {V : Value}
/-- A load, a store, of which it is known what they do. -/
theorem wpList_loadW (ty : TypeId) (s : Nat) (hop : o.op = .load ty (.tmp s)) (hg : o.guard = none) (hs : a.eval (.tmp s) = .pointer (some ⟨g, 0, none⟩)) (hl : (loadVar ty ⟨g, 0, none⟩).run Try.prog w = .ok V w)
    (h : wpList Try.prog ops Q rest (a.put o.dst V) w) : wpList Try.prog ops Q (o :: rest) a w := by
  refine wpList_plain hg fun K hK => ?_
  unfold Oper.wp
  simp [execOp, hop, hs, Instr.loadAt, Instr.sureAddr, hl, Result.andThen]
  exact hK _ _ h
theorem wpList_storeW (ty : TypeId) (s x : Nat) (hop : o.op = .store ty (.tmp s) (.tmp x)) (hg : o.guard = none) (hs : a.eval (.tmp s) = .pointer (some ⟨g, 0, none⟩)) (hx : a.eval (.tmp x) = V) (hl : (storeVar ty ⟨g, 0, none⟩ V).run Try.prog w = .ok () w')
    (h : wpList Try.prog ops Q rest (a.put o.dst undef) w') : wpList Try.prog ops Q (o :: rest) a w := by
  refine wpList_plain hg fun K hK => ?_
  unfold Oper.wp
  simp [execOp, hop, hs, hx, Instr.storeAt, Instr.sureAddr, hl, Result.andThen]
  exact hK _ _ h
end
theorem setRow_blk {w : World} {g : Nat} {t : TypeId} {cs : Array Value} (h : Blk w g t cs) (cs' : Array Value) : Blk (w.setRow g cs') g t cs' := setRow_heap w g cs cs' t (0, 0) h
theorem setRow_turn (w : World) (g : Nat) (cs : Array Value) : Turn (fun b => b = g) w (w.setRow g cs) := by
  have h := below_setRow (Below.refl g w) (Nat.le_refl g) cs
  refine ⟨h.os, h.tape, h.output, h.size, fun b hb hn => ?_⟩
  show (w.setRow g cs).heap[b]? = w.heap[b]?
  unfold World.setRow
  simp only
  rw [Array.getElem?_modify, if_neg (fun e => hn e.symm)]
/-- The least from i on, of the next k; of whole numbers. -/
def leastI (f : Nat → Int) (i : Nat) : Nat → Int
  | 0 => f i
  | k + 1 => min (leastI f i k) (f (i + k + 1))
theorem leastI_cI (c : Nat → Nat) (i : Nat) : ∀ k, leastI (cI c) i k = (leastR c i k : Int)
  | 0 => rfl
  | k + 1 => by rw [leastI, leastI_cI c i k, leastR]; unfold cI; omega
theorem maxC_run (a b : Int) (w : World) : (Builtin.max_ #[3, 3] 3 #[.int .i64 a, .int .i64 b]).run Try.prog w = .ok (.int .i64 (max a b)) w := by
  rcases Int.lt_or_le a b with h | h
  · simp [Builtin.max_, Builtin.max2, h]; omega
  · simp [Builtin.max_, Builtin.max2]; omega
theorem minC_run (a b : Int) (w : World) : (Builtin.min_ #[3, 3] 3 #[.int .i64 a, .int .i64 b]).run Try.prog w = .ok (.int .i64 (min a b)) w := by
  rcases Int.lt_or_le b a with h | h
  · simp [Builtin.min_, Builtin.min2, h]; omega
  · simp [Builtin.min_, Builtin.min2]; omega
theorem min145_any (g off n cp : Nat) (f : Nat → Int) (h1 : 0 < n) (h2 : n ≤ 31) (w : World) (hc : ∀ k, k < n → w.cell? ⟨g, off + k, none⟩ = some (.int .i64 (f (off + k)))) :
    Calls Try.prog 145 #[.slice (some ⟨g, off, none⟩) n cp] w fun e w' => e = .returned (.int .i64 (leastI f off (n - 1))) ∧ w' = w := by
  have HC := Lib.hid hc
  have c0 := hc 0 h1
  rw [Nat.add_zero] at c0
  clear hc
  have hn : decide ((n : Int) < 1) = false := by simp; omega
  have hn0 : (0 : Int) < n := by omega
  have hmin := minC_run
  go_enter Try.func145, Try.ntmps145
  go_wp2
  go_loopw [3, 4] (fun m i wr => ∃ k : Nat, 1 ≤ k ∧ k ≤ n ∧ i = .int .i64 k ∧ m = .int .i64 (leastI f off (k - 1)) ∧ wr = w) (fun _ i _ => n - (intOf i).toNat)
  case atStart => exact ⟨1, Nat.le_refl _, h1, rfl, rfl, rfl⟩
  case round =>
    obtain ⟨k, hk1, hk, rfl, rfl, rfl⟩ := hrel
    by_cases hlt : k < n
    · have ck := HC.out k hlt
      go_wp2
      go_roundw
      case rel =>
        refine ⟨k + 1, by omega, by omega, by go_num, ?_, trivial⟩
        obtain ⟨j, rfl⟩ : ∃ j, k = j + 1 := ⟨k - 1, by omega⟩
        rfl
      case measure => simp [intOf]; omega
    · obtain rfl : n = k := by omega
      go_wp2
      go_ret
      exact ⟨rfl, rfl⟩
theorem least_any (f : Nat → Int) (w : World) : Calls Try.prog 136 #[costV f] w fun e w' => e = .returned (.int .i64 (leastI f 0 30)) ∧ Below w.heap.size w w' := by
  obtain ⟨W, hW⟩ : ∃ W, W = w.alloc (.cells (costA f) 162) := ⟨_, rfl⟩
  have HX : Hid (Blk W w.heap.size 162 (costA f)) := by rw [hW]; exact Blk.new w 162 _
  have HB : Hid (Below w.heap.size w W) := by rw [hW]; exact (Below.refl _ _).alloc (Nat.le_refl _) _
  unfold costV
  go_enter Try.func136, Try.ntmps136
  go_wp2_with fail
  rw [← hW]
  refine (min145_any w.heap.size 0 31 31 f (by decide) (by decide) _ (fun k hk => by rw [Nat.zero_add, HX.out.cell, costA_get f hk])).mono ?_
  rintro e w1 ⟨rfl, rfl⟩
  go_wp2
  go_ret
  exact ⟨rfl, (by repeat (first | exact Below.refl _ _ | assumption | refine Below.drew ?_ | refine below_drewN ?_ _ | refine Below.alloc ?_ (by (try simp) <;> omega) _ | refine Below.setCell ?_ (by (try simp) <;> omega) _ | refine Below.trans ?_ (Below.mono (by assumption) (by (try simp) <;> omega))))⟩
/-- Two numbers together, up to far. -/
theorem sumC_any (g : Nat) (a b : Int) (ha : 0 ≤ a) (hb : 0 ≤ b) (ha2 : a ≤ 1000000) (hb2 : b ≤ 1000000) (w : World) (h : Blk w g 38 #[.int .i64 a, .int .i64 b] ∨ Blk w g 3 #[.int .i64 a, .int .i64 b]) :
    Calls Try.prog 146 #[.slice (some ⟨g, 0, none⟩) 2 2] w fun e w' => e = .returned (.int .i64 (min 65536 (a + b))) ∧ w' = w := by
  obtain ⟨c0, c1⟩ : w.cell? ⟨g, 0, none⟩ = some (.int .i64 a) ∧ w.cell? ⟨g, 1, none⟩ = some (.int .i64 b) := by
    rcases h with h | h <;> exact ⟨h.cell 0, h.cell 1⟩
  have hmin := minC_run
  go_enter Try.func146, Try.ntmps146
  go_wp2
  go_loopw [2, 7] (fun m i wr => ∃ k : Nat, k ≤ 2 ∧ i = .int .i64 k ∧ m = .int .i64 (if k = 0 then 0 else if k = 1 then min 65536 a else min 65536 (a + b)) ∧ wr = w) (fun _ i _ => 2 - (intOf i).toNat)
  case atStart => exact ⟨0, by omega, rfl, rfl, rfl⟩
  case round =>
    obtain ⟨k, hk, rfl, rfl, rfl⟩ := hrel
    obtain rfl | rfl | rfl : k = 0 ∨ k = 1 ∨ k = 2 := by omega
    · go_wp2
      go_roundw
      case rel => exact ⟨1, by omega, by go_num, by simp, trivial⟩
      case measure => simp [intOf]
    · go_wp2
      go_roundw
      case rel => exact ⟨2, by omega, by go_num, by simp; omega, trivial⟩
      case measure => simp [intOf]
    · go_wp2
      go_ret
      exact ⟨rfl, rfl⟩
end Go.Proofs.Ytbfjebglaimcmaa
namespace Go.Proofs.Ytbfjebglaimcmaa
open Go.RowKit Go.Hav Go.Sq
attribute [local go_sem] Oper.semAt_some
/-- A bale in cells. -/
def blF (b : Bl) : List Value := [.int .i64 b.f, .int .i64 b.l, .int .i64 b.w]
theorem blF_len (b : Bl) : (blF b).length = 3 := rfl
/-- A line that is valid. -/
structure ClsOk (c : Cls) : Prop where
  l1 : 1 ≤ c.bl.length
  l6 : c.bl.length ≤ 6
  may : c.may ≤ 30
  dr : c.drift ≤ 30
  mi : c.mis ≤ 6
  bl : ∀ b ∈ c.bl, BlOk b
/-- What the map holds. -/
def kF (c : Cls) (k : KeyC) : Nat → Int := cI (toC c.drift (fun _ => true) (if k.back then backL c k.n else frontL c k.n))
def tabC (ba : Option Addr) (bc : Nat) (c : Cls) (r : Nat) : Array Value := #[.slice ba c.bl.length bc, .int .i64 c.may, .int .i64 c.drift, .int .i64 c.mis, .map (some r)]
/-- A line that is looked at. -/
structure TabIn (w : World) (B d r : Nat) (ba : Option Addr) (bc : Nat) (c : Cls) : Prop where
  ok : ClsOk c
  blk : Blk w d 158 (tabC ba bc c r)
  rd : RdG blF 3 w B ba c.bl
  map : MapK w r (kF c)
  hr : B ≤ r
  hd : B ≤ d
  ne : r ≠ d
  hB : B ≤ w.heap.size
section
variable {w w' : World} {B d r bc : Nat} {ba : Option Addr} {c : Cls}
theorem TabIn.below (h : TabIn w B d r ba bc c) (hb : Below w.heap.size w w') : TabIn w' B d r ba bc c :=
  { h with blk := h.blk.below hb h.blk.lt, rd := h.rd.below ⟨hb.os, hb.tape, hb.output, hb.size, fun b hl => hb.block b (Nat.lt_of_lt_of_le hl h.hB)⟩, map := h.map.keep (hb.block r h.map.lt), hB := Nat.le_trans h.hB hb.size }
theorem TabIn.turn (h : TabIn w B d r ba bc c) (t : Turn (fun b => b = r) w w') (hm : MapK w' r (kF c)) : TabIn w' B d r ba bc c :=
  { h with blk := h.blk.turn t (fun e => h.ne e.symm), rd := h.rd.keep fun b hl _ => t.block b (Nat.lt_of_lt_of_le hl h.hB) (fun e => by have := h.hr; omega), map := hm, hB := Nat.le_trans h.hB t.size }
/-- A bale of the line, in memory. -/
theorem TabIn.bale (h : TabIn w B d r ba bc c) {n : Nat} {b : Bl} (hb : c.bl[n]? = some b) : ∃ g off, ba = some ⟨g, off, none⟩ ∧ g < w.heap.size ∧ w.cell? ⟨g, off + n * 3, none⟩ = some (.int .i64 b.f) ∧ w.cell? ⟨g, off + n * 3 + 1, none⟩ = some (.int .i64 b.l) ∧ w.cell? ⟨g, off + n * 3 + 2, none⟩ = some (.int .i64 b.w) := by
  obtain ⟨g, off, e, hl, hc⟩ := h.rd n b hb
  have h0 := hc 0 _ rfl
  have h1 := hc 1 _ rfl
  have h2 := hc 2 _ rfl
  exact ⟨g, off, e, Nat.lt_of_lt_of_le hl h.hB, by simpa using h0, h1, h2⟩
set_option maxRecDepth 100000 in
set_option maxHeartbeats 400000 in
theorem everyC_any (w : World) (h : TabIn w B d r ba bc c) : Calls Try.prog 92 #[.pointer (some ⟨d, 0, none⟩)] w fun e w' => e = .returned (.int .u64 (full c.bl.length : Nat)) ∧ w' = w := by
  have c0 := h.blk.cell 0
  have hl := h.blk.lt
  have h6 := h.ok.l6
  simp [tabC] at c0
  obtain ⟨n, hn⟩ : ∃ n, c.bl.length = n := ⟨_, rfl⟩
  rw [hn] at c0 h6 ⊢
  have hp := two_pow_small n (by omega)
  have hp0 : (0 : Int) < 2 ^ n := Int.pow_pos (by omega)
  have HFU := Lib.hid (full_int n)
  clear h hn
  go_enter Try.func92, Try.ntmps92
  go_wp2
  go_ret
  exact ⟨by rw [HFU.out]; rfl, rfl⟩
theorem inB_bale {n len : Nat} (h : n < len) : inB (n : Int) 0 ((len : Int) - 1) = true := by simp [inB]; omega
set_option maxRecDepth 100000 in
set_option maxHeartbeats 400000 in
theorem isBale_any (w : World) (h : TabIn w B d r ba bc c) {n : Nat} (hn : n < c.bl.length) : Calls Try.prog 101 #[.pointer (some ⟨d, 0, none⟩), .int .i64 n] w fun e w' => e = .returned (.bool true) ∧ w' = w := by
  have HI := Lib.hid (inB_bale hn)
  have c0 := h.blk.cell 0
  have hl := h.blk.lt
  have h6 := h.ok.l6
  simp [tabC] at c0
  obtain ⟨m, hm⟩ : ∃ n, c.bl.length = n := ⟨_, rfl⟩
  rw [hm] at c0 h6 HI
  clear h hm hn
  go_enter Try.func101, Try.ntmps101
  go_wp2_with fail
  refine (withinC_any _ _ _ _).mono ?_
  rintro e w' ⟨rfl, rfl⟩
  rw [HI.out]
  go_wp2
  go_ret
  exact ⟨rfl, rfl⟩
theorem size174 : (Try.prog.info? 174).map (·.size) = some 5 := by kernel_rfl
/-- A whole row out of its block. -/
theorem wide_load {w : World} {g : Nat} {t ty : TypeId} {cs : Array Value} {n : Nat} {d : TypeDesc} (hd : (match d with | .struct _ | .array _ _ => true | _ => false) = true) (h : Blk w g t cs) (hu : Try.prog.underlying ty = some d) (hi : (Try.prog.info? ty).map (·.size) = some n) (hn : cs.size = n := by rfl) : (loadVar ty ⟨g, 0, none⟩).run Try.prog w = .ok (.agg cs) w :=
  run_loadVar_row _ _ _ _ _ _ _ h hu (by cases d <;> first | rfl | exact absurd hd (by simp)) (by rw [hn]; exact hi)
theorem res_load {W : World} {g : Nat} {ty : TypeId} {V : Value} (h : (loadVar ty ⟨g, 0, none⟩).run Try.prog W = .ok V W) : (((asAddr (.pointer (some ⟨g, 0, none⟩))).run Try.prog W).andThen fun a w' => (loadVar ty a).run Try.prog w') = .ok V W := by
  simp [asAddr, h]
/-- What leads to a bale. -/
def baleC (d : Nat) (b : Bl) (t : Bool) : Array Value := #[.int .i64 d, .int .i64 b.f, .int .i64 b.l, .int .i64 b.w, .bool t]
theorem tb_fullC {n k : Nat} (h : k < n) : (full n).testBit k = true := by rw [tb_full]; simpa using h
theorem full_small {n : Nat} (h : n ≤ 6) : full n < 64 := by
  unfold full
  have := Nat.pow_le_pow_right (n := 2) (by omega) h
  have := Nat.two_pow_pos n
  omega
set_option maxRecDepth 100000 in
set_option maxHeartbeats 800000 in
theorem step_any (w : World) (h : TabIn w B d r ba bc c) {n : Nat} {b : Bl} (hb : c.bl[n]? = some b) : Calls Try.prog 131 #[.pointer (some ⟨d, 0, none⟩), .int .i64 n, .int .u64 (full c.bl.length : Nat)] w fun e w' => e = .returned (.agg (baleC c.drift b true)) ∧ Below w.heap.size w w' := by
  have hn := (List.getElem?_eq_some_iff.1 hb).1
  obtain ⟨g, off, rfl, hg, b0, b1, b2⟩ := h.bale hb
  have c0 := h.blk.cell 0
  have c2 := h.blk.cell 2
  have hl := h.blk.lt
  have h6 := h.ok.l6
  simp [tabC] at c0 c2
  obtain ⟨m, hm⟩ : ∃ n, c.bl.length = n := ⟨_, rfl⟩
  rw [hm] at c0 h6 hn ⊢
  obtain ⟨s, hs⟩ : ∃ s, full m = s := ⟨_, rfl⟩
  have hs6 : s < 64 := by rw [← hs]; exact full_small h6
  have htb := tb_u64 s n (by omega)
  rw [show s.testBit n = true by rw [← hs]; exact tb_fullC hn] at htb
  rw [hs]
  have hnm : (n : Int) < m := by omega
  clear h hm hb hs
  go_enter Try.func131, Try.ntmps131
  go_upto_region 1 with (fail)
  obtain ⟨W, hW⟩ : ∃ W, W = w.alloc (.cells #[.int .i64 0, .int .i64 0, .int .i64 0, .int .i64 0, .bool false] 174) := ⟨_, rfl⟩
  have HX : Hid (Blk W w.heap.size 174 #[.int .i64 0, .int .i64 0, .int .i64 0, .int .i64 0, .bool false]) := by rw [hW]; exact Blk.new w 174 _
  have HB : Hid (Below w.heap.size w W) := by rw [hW]; exact (Below.refl _ _).alloc (Nat.le_refl _) _
  obtain ⟨hcW, hfW⟩ := bcell HB.out
  rw [← hW]
  clear hW
  have f0 := HX.out.frozen 0
  have xl := HX.out.lt
  have x0 := HX.out.cell 0
  have x1 := HX.out.cell 1
  have x2 := HX.out.cell 2
  have x3 := HX.out.cell 3
  have x4 := HX.out.cell 4
  have f1 := HX.out.frozen 1
  have f2 := HX.out.frozen 2
  have f3 := HX.out.frozen 3
  have f4 := HX.out.frozen 4
  simp at x0 x1 x2 x3 x4
  have c0' := (hcW d 0 hl).trans c0
  have c2' := (hcW d 2 hl).trans c2
  have b0' := (hcW g _ hg).trans b0
  have b1' := (hcW g _ hg).trans b1
  have b2' := (hcW g _ hg).trans b2
  clear c0 c2 b0 b1 b2 hcW hfW
  go_region
  have hZ := ((((HX.out.set_ 0 (.int .i64 c.drift)).set_ 1 (.int .i64 b.f)).set_ 2 (.int .i64 b.l)).set_ 3 (.int .i64 b.w)).set_ 4 (.bool true)
  simp at hZ
  have hld := res_load (wide_load (cs := #[.int .i64 c.drift, .int .i64 b.f, .int .i64 b.l, .int .i64 b.w, .bool true]) rfl hZ.drew Try.underlying174 size174)
  go_wp2
  refine bodyPost_ret (v := .agg (baleC c.drift b true)) ?_ rfl ⟨rfl, ?_⟩
  · simp [results, Try.results131, hld, baleC]
  · exact (((((HB.out.setCell (by simp) _).setCell (by simp) _).setCell (by simp) _).setCell (by simp) _).setCell (by simp) _).drew
end
end Go.Proofs.Ytbfjebglaimcmaa
namespace Go.Proofs.Ytbfjebglaimcmaa
open Go.RowKit Go.Hav Go.Sq
attribute [local go_sem] Oper.semAt_some
theorem max3_run (a b c : Int) (w : World) : (Builtin.max_ #[3, 3, 3] 3 #[.int .i64 a, .int .i64 b, .int .i64 c]).run Try.prog w = .ok (.int .i64 (max (max a b) c)) w := by
  rcases Int.lt_or_le a b with h | h
  · rcases Int.lt_or_le b c with h2 | h2
    · simp [Builtin.max_, Builtin.max2, h, h2]; omega
    · simp [Builtin.max_, Builtin.max2, h, Int.not_lt.2 h2]; omega
  · rcases Int.lt_or_le a c with h2 | h2
    · simp [Builtin.max_, Builtin.max2, Int.not_lt.2 h, h2]; omega
    · simp [Builtin.max_, Builtin.max2, Int.not_lt.2 h, Int.not_lt.2 h2]; omega
theorem own_val {b : Bl} {k : Nat} (hk : k ≤ b.f) (hl : b.l ≤ b.f) : max (max 0 (max 0 ((k : Int) - ((b.f : Int) - b.l)) - b.w)) ((b.w : Int) - min (k : Int) b.l) = (ownC b true k : Nat) := by
  unfold ownC
  rw [if_neg (by omega), if_pos rfl]
  omega
/-- Costs, the first of them known. -/
def upC (F : Nat → Int) (G : Nat → Int) (k : Nat) : Nat → Int := fun j => if j < k then F j else G j
theorem upC_set (F G : Nat → Int) {k : Nat} (h : k < 31) : (costA (upC F G k)).setIfInBounds k (.int .i64 (F k)) = costA (upC F G (k + 1)) := by
  rw [costA_set _ h]
  refine costA_congr fun j _ => ?_
  unfold upC
  by_cases e : j = k
  · subst e; rw [if_pos rfl, if_pos (by omega)]
  · rw [if_neg e]
    by_cases hj : j < k
    · rw [if_pos hj, if_pos (by omega)]
    · rw [if_neg hj, if_neg (by omega)]
theorem upC_zero (F G : Nat → Int) : upC F G 0 = G := by funext j; simp [upC]
theorem upC_full (F G : Nat → Int) : costA (upC F G 31) = costA F := costA_congr fun j hj => by unfold upC; rw [if_pos hj]
theorem upC_at (F G : Nat → Int) {k : Nat} : upC F G k k = G k := by unfold upC; rw [if_neg (by omega)]
section
set_option maxRecDepth 100000 in
set_option maxHeartbeats 1600000 in
theorem own_any (d : Nat) (b : Bl) (hb : BlOk b) (w : World) : Calls Try.prog 132 #[.agg (baleC d b true)] w fun e w' => e = .returned (costV (cI (ownC b true))) ∧ Below w.heap.size w w' := by
  obtain ⟨h1, h2, h3, h4⟩ := hb
  have HV : Hid (∀ k, k ≤ b.f → max (max 0 (max 0 ((k : Int) - ((b.f : Int) - b.l)) - b.w)) ((b.w : Int) - min (k : Int) b.l) = (ownC b true k : Nat)) := fun k hk => own_val hk h3
  have HW : Hid (∀ k, ¬ k ≤ b.f → (ownC b true k : Int) = 65536) := fun k hk => by unfold ownC farC; rw [if_pos (by omega)]; rfl
  obtain ⟨W, hW⟩ : ∃ W, W = (w.alloc (.cells (baleC d b true) 174)).alloc (.cells (costA fun _ => 0) 162) := ⟨_, rfl⟩
  have HX : Hid (Blk W w.heap.size 174 (baleC d b true)) := by rw [hW]; exact (Blk.new w 174 _).alloc _
  have HC : Hid (Blk W (w.heap.size + 1) 162 (costA fun _ => 0)) := by rw [hW]; exact Blk.new_ (by simp) 162 _
  have HB : Hid (Below w.heap.size w W) := by rw [hW]; exact ((Below.refl _ _).alloc (Nat.le_refl _) _).alloc (by simp) _
  have hz := Try.zero162
  have hmax := maxC_run
  have hmin := minC_run
  have hmax3 := max3_run
  unfold baleC at hW HX ⊢
  unfold costV at hz
  go_enter Try.func132, Try.ntmps132
  go_upto_region 1 with (fail)
  rw [← hW]
  clear hW hz
  go_upto_region 2 with (fail)
  go_loopw [6] (fun i wr => ∃ k : Nat, k ≤ 31 ∧ i = .int .i64 k ∧ Blk wr (w.heap.size + 1) 162 (costA (upC (cI (ownC b true)) (fun _ => 0) k)) ∧ Blk wr w.heap.size 174 #[.int .i64 d, .int .i64 b.f, .int .i64 b.l, .int .i64 b.w, .bool true] ∧ Below w.heap.size w wr) (fun i _ => 31 - (intOf i).toNat)
  case atStart => exact ⟨0, by omega, rfl, by rw [upC_zero]; exact HC.out, HX.out, HB.out⟩
  case round =>
    obtain ⟨k, hk, rfl, hc, hx, hb⟩ := hrel
    have HCR := Lib.hid hc
    have HXR := Lib.hid hx
    have HBR := Lib.hid hb
    have x1 := hx.cell 1
    have x2 := hx.cell 2
    have x3 := hx.cell 3
    have x4 := hx.cell 4
    have xl := hx.lt
    have cl := hc.lt
    simp at x1 x2 x3 x4
    clear hc hx hb
    by_cases hlt : k < 31
    · have hki : (k : Int) < 31 := by omega
      have ck := HCR.out.cell k
      rw [costA_get _ hlt, upC_at] at ck
      have fk := HCR.out.frozen k
      by_cases hkf : k ≤ b.f
      · have hV := HV.out k hkf
        have hS : Hid (Blk (wr.setCell ⟨w.heap.size + 1, k, none⟩ (.int .i64 (ownC b true k : Nat))) (w.heap.size + 1) 162 (costA (upC (cI (ownC b true)) (fun _ => 0) (k + 1)))) := by
          have h := HCR.out.set_ k (.int .i64 (ownC b true k : Nat))
          rwa [show ((ownC b true k : Nat) : Int) = cI (ownC b true) k from rfl, upC_set _ _ hlt] at h
        have hkd : decide ((b.f : Int) < k) = false := by simp; omega
        go_upto_region 4 with (fail)
        go_region
        go_wp2_with fail
        go_roundw
        case rel => exact ⟨k + 1, by omega, by go_num, hS.out.drew, (HXR.out.far (by simp) _).drew, (HBR.out.setCell (by simp) _).drew⟩
        case measure => simp [intOf]; omega
      · have hV := HW.out k hkf
        have hS : Hid (Blk (wr.setCell ⟨w.heap.size + 1, k, none⟩ (.int .i64 65536)) (w.heap.size + 1) 162 (costA (upC (cI (ownC b true)) (fun _ => 0) (k + 1)))) := by
          have h := HCR.out.set_ k (.int .i64 65536)
          have e := upC_set (cI (ownC b true)) (fun _ => 0) hlt
          rw [show cI (ownC b true) k = 65536 from hV] at e
          rwa [e] at h
        have hkd : decide ((b.f : Int) < k) = true := by simp; omega
        go_upto_region 4 with (fail)
        go_region
        go_wp2_with fail
        go_roundw
        case rel => exact ⟨k + 1, by omega, by go_num, hS.out.drew, (HXR.out.far (by simp) _).drew, (HBR.out.setCell (by simp) _).drew⟩
        case measure => simp [intOf]; omega
    · obtain rfl : k = 31 := by omega
      rw [upC_full] at HCR
      have hR := setRow_blk HCR.out (costA (cI (ownC b true)))
      have hld := res_load (cost_load hR)
      go_wp2_with (first | refine wpList_loadW 162 _ rfl rfl rfl (cost_load HCR.out) ?_ | refine wpList_storeW 162 _ _ rfl rfl rfl rfl (cost_store HCR.out _) ?_)
      refine bodyPost_ret (v := costV (cI (ownC b true))) ?_ rfl ⟨rfl, below_setRow HBR.out (by omega) _⟩
      simp [results, Try.results132, Act.put, hld]
set_option maxRecDepth 100000 in
set_option maxHeartbeats 1600000 in
theorem plus_anyC (f o : Nat → Int) (hf : ∀ i, i < 31 → 0 ≤ f i ∧ f i ≤ 65536) (ho : ∀ i, i < 31 → 0 ≤ o i ∧ o i ≤ 65536) (w : World) : Calls Try.prog 143 #[costV f, costV o] w fun e w' => e = .returned (costV fun i => min 65536 (f i + o i)) ∧ Below w.heap.size w w' := by
  obtain ⟨W, hW⟩ : ∃ W, W = ((w.alloc (.cells (costA f) 162)).alloc (.cells (costA o) 162)).alloc (.cells (costA fun _ => 0) 162) := ⟨_, rfl⟩
  have HX : Hid (Blk W w.heap.size 162 (costA f)) := by rw [hW]; exact ((Blk.new w 162 _).alloc _).alloc _
  have HY : Hid (Blk W (w.heap.size + 1) 162 (costA o)) := by rw [hW]; exact (Blk.new_ (by simp) 162 _).alloc _
  have HC : Hid (Blk W (w.heap.size + 2) 162 (costA fun _ => 0)) := by rw [hW]; exact Blk.new_ (by simp) 162 _
  have HB : Hid (Below w.heap.size w W) := by rw [hW]; exact (((Below.refl _ _).alloc (Nat.le_refl _) _).alloc (by simp) _).alloc (by simp; omega) _
  have HF := Lib.hid hf
  have HO := Lib.hid ho
  have hz := Try.zero162
  unfold costV at hz ⊢
  clear hf ho
  go_enter Try.func143, Try.ntmps143
  go_upto_region 1 with (fail)
  rw [← hW]
  clear hW hz
  go_upto_region 2 with (fail)
  go_loopw [6] (fun i wr => ∃ k : Nat, k ≤ 31 ∧ i = .int .i64 k ∧ Blk wr w.heap.size 162 (costA (upC (fun i => min 65536 (f i + o i)) f k)) ∧ Blk wr (w.heap.size + 1) 162 (costA o) ∧ Blk wr (w.heap.size + 2) 162 (costA fun _ => 0) ∧ Below w.heap.size w wr) (fun i _ => 31 - (intOf i).toNat)
  case atStart => exact ⟨0, by omega, rfl, by rw [upC_zero]; exact HX.out, HY.out, HC.out, HB.out⟩
  case round =>
    obtain ⟨k, hk, rfl, hx, hy, hc, hb⟩ := hrel
    have HXR := Lib.hid hx
    have HYR := Lib.hid hy
    have HCR := Lib.hid hc
    have HBR := Lib.hid hb
    have xl := hx.lt
    have yl := hy.lt
    clear hx hy hc hb
    by_cases hlt : k < 31
    · have hki : (k : Int) < 31 := by omega
      have xk := HXR.out.cell k
      have yk := HYR.out.cell k
      rw [costA_get _ hlt, upC_at] at xk
      rw [costA_get _ hlt] at yk
      have HS : Hid (∀ wz, Blk wz w.heap.size 162 (costA (upC (fun i => min 65536 (f i + o i)) f k)) → Blk (wz.setCell ⟨w.heap.size, k, none⟩ (.int .i64 (min 65536 (f k + o k)))) w.heap.size 162 (costA (upC (fun i => min 65536 (f i + o i)) f (k + 1)))) := fun wz hz => by
        have h := hz.set_ k (.int .i64 (min 65536 (f k + o k)))
        have e := upC_set (fun i => min 65536 (f i + o i)) f hlt
        rwa [e] at h
      go_upto_region 4 with (fail)
      refine wp_region_havoc [(0,false),(1,false),(2,false),(3,false),(4,false),(5,false),(6,false),(7,true),(8,false),(9,false)] [10] (fun _ _ => False) (by kernel_rfl) (by kernel_rfl) (fun _ _ _ _ h => h.elim) ?_
      (apply hav_same (by simp only [List.getElem?_toArray, List.getElem?_cons_zero]; rfl) (by kernel_rfl); (focus (intro wv hgv _; have hcv : ∀ b o, b < _ → wv.cell? ⟨b, o, none⟩ = _ := fun b o hb => Below.cell hgv (p := ⟨b, o, none⟩) hb; (try go_simp); try rfl; done)); simp only [Act.put, List.setIfInBounds_toArray, List.set_cons_succ, List.set_cons_zero])
      iterate 6 (apply hav_same (by simp only [List.getElem?_toArray, List.getElem?_cons_succ, List.getElem?_cons_zero]; rfl) (by kernel_rfl); (focus (intro wv hgv _; have hcv : ∀ b o, b < _ → wv.cell? ⟨b, o, none⟩ = _ := fun b o hb => Below.cell hgv (p := ⟨b, o, none⟩) hb; (try go_simp); try rfl; done)); simp only [Act.put, List.setIfInBounds_toArray, List.set_cons_succ, List.set_cons_zero])
      (apply hav_new (fun g => .slice (some ⟨g, 0, none⟩) 2 2) (.cells #[.int .i64 (f k), .int .i64 (o k)] 3) (by simp only [List.getElem?_toArray, List.getElem?_cons_succ, List.getElem?_cons_zero]; rfl) (by kernel_rfl); (focus (intro wv hgv _; have hcv : ∀ b o, b < _ → wv.cell? ⟨b, o, none⟩ = _ := fun b o hb => Below.cell hgv (p := ⟨b, o, none⟩) hb; (try go_simp); try rfl; done)); intro v; simp only [Act.put, List.setIfInBounds_toArray, List.set_cons_succ, List.set_cons_zero])
      (apply hav_call (by simp only [List.getElem?_toArray, List.getElem?_cons_succ, List.getElem?_cons_zero]; rfl) (by kernel_rfl); (focus (intro wv; go_simp; try exact ⟨rfl, rfl⟩; done)); (focus (intro wv hgv hF; obtain ⟨_, g, hv, hB, hh⟩ := hF; subst hv; exact (sumC_any g (f k) (o k) (HF.out k hlt).1 (HO.out k hlt).1 (by have := (HF.out k hlt).2; omega) (by have := (HO.out k hlt).2; omega) wv (.inr hh)).mono (fun e w' ⟨h1, h2⟩ => ⟨h1, by rw [h2]; exact Below.refl _ _⟩); done)); simp only [Act.put, List.setIfInBounds_toArray, List.set_cons_succ, List.set_cons_zero])
      (apply hav_same (by simp only [List.getElem?_toArray, List.getElem?_cons_succ, List.getElem?_cons_zero]; rfl) (by kernel_rfl); (focus (intro wv hgv _; have hcv : ∀ b o, b < _ → wv.cell? ⟨b, o, none⟩ = _ := fun b o hb => Below.cell hgv (p := ⟨b, o, none⟩) hb; (try go_simp); try rfl; done)); simp only [Act.put, List.setIfInBounds_toArray, List.set_cons_succ, List.set_cons_zero])
      refine hav_end (fun w1 hgw1 hF => ?_); simp only [List.filterMap]; have hcw1 : ∀ b o, b < _ → w1.cell? ⟨b, o, none⟩ = _ := fun b o hb => Below.cell hgw1 (p := ⟨b, o, none⟩) hb; have hfw1 : ∀ b o, b < _ → w1.frozen? ⟨b, o, none⟩ = _ := fun b o hb => Below.frozen hgw1 (p := ⟨b, o, none⟩) hb; have hzw1 := Below.size hgw1; (try simp at hzw1)
      have HX1 := Lib.hid (HXR.out.below hgw1 HXR.out.lt)
      have HY1 := Lib.hid (HYR.out.below hgw1 HYR.out.lt)
      have HC1 := Lib.hid (HCR.out.below hgw1 HCR.out.lt)
      have HB1 : Hid (Below w.heap.size w w1) := HBR.out.trans (hgw1.mono HBR.out.size)
      clear hgw1 hcw1 hfw1 hF xk yk xl yl
      have xk := HX1.out.cell k
      rw [costA_get _ hlt] at xk
      have fk := HX1.out.frozen k
      have xl := HX1.out.lt
      go_wp2_with fail
      go_roundw
      case rel => exact ⟨k + 1, by omega, by go_num, HS.out _ HX1.out, HY1.out.far (by simp) _, HC1.out.far (by simp) _, HB1.out.setCell (by simp) _⟩
      case measure => simp [intOf]; omega
    · obtain rfl : k = 31 := by omega
      rw [upC_full] at HXR
      have hR := setRow_blk HCR.out (costA (fun i => min 65536 (f i + o i)))
      have hld := res_load (cost_load hR)
      unfold costV at hld
      go_wp2_with (first | refine wpList_loadW 162 _ rfl rfl rfl (cost_load HXR.out) ?_ | refine wpList_storeW 162 _ _ rfl rfl rfl rfl (cost_store HCR.out _) ?_)
      refine bodyPost_ret (v := costV fun i => min 65536 (f i + o i)) ?_ rfl ⟨rfl, below_setRow HBR.out (by omega) _⟩
      simp [results, Try.results143, Act.put, hld, costV]
end
end Go.Proofs.Ytbfjebglaimcmaa
namespace Go.Proofs.Ytbfjebglaimcmaa
open Go.RowKit Go.Hav Go.Sq
attribute [local go_sem] Oper.semAt_some
theorem exec_loadW {o : Oper} {a : Act} {w : World} {g : Nat} {V : Value} (ty : TypeId) (s : Nat) (hop : o.op = .load ty (.tmp s)) (hs : a.eval (.tmp s) = .pointer (some ⟨g, 0, none⟩)) (hl : (loadVar ty ⟨g, 0, none⟩).run Try.prog w = .ok V w) : (execOp a.eval o).run Try.prog w = .ok (.value V) w := by
  simp [execOp, hop, hs, Instr.loadAt, Instr.sureAddr, hl, Result.andThen]
/-- What drifts, of whole numbers. -/
def driftI (d : Nat) (f : Nat → Int) (i : Nat) : Int := leastI f (i - d) (min 30 (i + d) - (i - d))
theorem driftI_cI (d : Nat) (c : Nat → Nat) : driftI d (cI c) = cI (driftC d c) := by
  funext i
  unfold driftI
  rw [leastI_cI]
  rfl
section
set_option maxRecDepth 100000 in
set_option maxHeartbeats 1600000 in
theorem drift_any (d : Nat) (hd : d ≤ 30) (f : Nat → Int) (w : World) : Calls Try.prog 144 #[.agg #[.int .i64 d], costV f] w fun e w' => e = .returned (costV (driftI d f)) ∧ Below w.heap.size w w' := by
  obtain ⟨W, hW⟩ : ∃ W, W = ((w.alloc (.cells #[.int .i64 d] 172)).alloc (.cells (costA f) 162)).alloc (.cells (costA fun _ => 0) 162) := ⟨_, rfl⟩
  have HX : Hid (Blk W w.heap.size 172 #[.int .i64 d]) := by rw [hW]; exact ((Blk.new w 172 _).alloc _).alloc _
  have HY : Hid (Blk W (w.heap.size + 1) 162 (costA f)) := by rw [hW]; exact (Blk.new_ (by simp) 162 _).alloc _
  have HC : Hid (Blk W (w.heap.size + 2) 162 (costA fun _ => 0)) := by rw [hW]; exact Blk.new_ (by simp) 162 _
  have HB : Hid (Below w.heap.size w W) := by rw [hW]; exact (((Below.refl _ _).alloc (Nat.le_refl _) _).alloc (by simp) _).alloc (by simp; omega) _
  have hz := Try.zero162
  unfold costV at hz ⊢
  go_enter Try.func144, Try.ntmps144
  go_upto_region 1 with (fail)
  rw [← hW]
  clear hW hz
  go_upto_region 2 with (fail)
  go_loopw [6] (fun i wr => ∃ k : Nat, k ≤ 31 ∧ i = .int .i64 k ∧ Blk wr w.heap.size 172 #[.int .i64 d] ∧ Blk wr (w.heap.size + 1) 162 (costA f) ∧ Blk wr (w.heap.size + 2) 162 (costA (upC (driftI d f) (fun _ => 0) k)) ∧ Below w.heap.size w wr) (fun i _ => 31 - (intOf i).toNat)
  case atStart => exact ⟨0, by omega, rfl, HX.out, HY.out, by rw [upC_zero]; exact HC.out, HB.out⟩
  case round =>
    obtain ⟨k, hk, rfl, hx, hy, hc, hb⟩ := hrel
    have HXR := Lib.hid hx
    have HYR := Lib.hid hy
    have HCR := Lib.hid hc
    have HBR := Lib.hid hb
    have xl := hx.lt
    have yl := hy.lt
    have cl := hc.lt
    have x0 := hx.cell 0
    simp at x0
    clear hx hy hc hb
    by_cases hlt : k < 31
    · have hki : (k : Int) < 31 := by omega
      obtain ⟨p, hp⟩ : ∃ p, k - d = p := ⟨_, rfl⟩
      obtain ⟨q, hq⟩ : ∃ q, min 31 (k + d + 1) = q := ⟨_, rfl⟩
      have hpq : p < q := by omega
      have hq31 : q ≤ 31 := by omega
      have hmx : ∀ w, (Builtin.max_ #[3, 3] 3 #[.int .i64 0, .int .i64 ((k : Int) - d)]).run Try.prog w = .ok (.int .i64 (p : Nat)) w := fun w => by
        rw [maxC_run, show max 0 ((k : Int) - d) = (p : Nat) by omega]
      have hmn : ∀ w, (Builtin.min_ #[3, 3] 3 #[.int .i64 31, .int .i64 ((k : Int) + d + 1)]).run Try.prog w = .ok (.int .i64 (q : Nat)) w := fun w => by
        rw [minC_run, show min 31 ((k : Int) + d + 1) = (q : Nat) by omega]
      have i1 : (p : Int) ≤ q := by omega
      have i2 : (q : Int) ≤ 31 := by omega
      have fk := HCR.out.frozen k
      have ck := HCR.out.cell k
      rw [costA_get _ hlt] at ck
      have HV : Hid (leastI f p (q - p - 1) = driftI d f k) := by
        show _ = _
        unfold driftI
        rw [hp, show min 30 (k + d) - p = q - p - 1 by omega]
      have HS : Hid (Blk (wr.setCell ⟨w.heap.size + 2, k, none⟩ (.int .i64 (driftI d f k))) (w.heap.size + 2) 162 (costA (upC (driftI d f) (fun _ => 0) (k + 1)))) := by
        have h := HCR.out.set_ k (.int .i64 (driftI d f k))
        rwa [upC_set _ _ hlt] at h
      clear hp hq
      go_wp2_with fail
      refine (min145_any (w.heap.size + 1) p (q - p) _ f (by omega) (by omega) _ (fun j hj => by rw [HYR.out.cell, costA_get f (by omega)])).mono ?_
      rintro e w1 ⟨rfl, rfl⟩
      rw [HV.out]
      go_wp2_with fail
      go_roundw
      case rel => exact ⟨k + 1, by omega, by go_num, HXR.out.far (by simp; omega) _, HYR.out.far (by simp) _, HS.out, HBR.out.setCell (by simp; omega) _⟩
      case measure => simp [intOf]; omega
    · obtain rfl : k = 31 := by omega
      rw [upC_full] at HCR
      have hR := setRow_blk HCR.out (costA (driftI d f))
      have hld := res_load (cost_load hR)
      unfold costV at hld
      go_wp2_with (first | refine wpList_loadW 162 _ rfl rfl rfl (cost_load HCR.out) ?_ | refine wpList_storeW 162 _ _ rfl rfl rfl rfl (cost_store HCR.out _) ?_)
      refine bodyPost_ret (v := costV (driftI d f)) ?_ rfl ⟨rfl, below_setRow HBR.out (by omega) _⟩
      simp [results, Try.results144, Act.put, hld, costV]
set_option maxRecDepth 100000 in
set_option maxHeartbeats 1600000 in
theorem after_any (d : Nat) (hd : d ≤ 30) (b : Bl) (hb : BlOk b) (c : Nat → Nat) (hc : ∀ i, i < 31 → c i ≤ farC) (w : World) : Calls Try.prog 135 #[.agg (baleC d b true), costV (cI c)] w fun e w' => e = .returned (costV (cI (plusC (driftC d c) (ownC b true)))) ∧ Below w.heap.size w w' := by
  obtain ⟨W, hW⟩ : ∃ W, W = ((w.alloc (.cells (baleC d b true) 174)).alloc (.cells (costA (cI c)) 162)).alloc (.cells (costA fun _ => 0) 162) := ⟨_, rfl⟩
  have HX : Hid (Blk W w.heap.size 174 (baleC d b true)) := by rw [hW]; exact ((Blk.new w 174 _).alloc _).alloc _
  have HY : Hid (Blk W (w.heap.size + 1) 162 (costA (cI c))) := by rw [hW]; exact (Blk.new_ (by simp) 162 _).alloc _
  have HC : Hid (Blk W (w.heap.size + 2) 162 (costA fun _ => 0)) := by rw [hW]; exact Blk.new_ (by simp) 162 _
  have HB : Hid (Below w.heap.size w W) := by rw [hW]; exact (((Below.refl _ _).alloc (Nat.le_refl _) _).alloc (by simp) _).alloc (by simp; omega) _
  have HP : Hid (∀ i, i < 31 → 0 ≤ cI (driftC d c) i ∧ cI (driftC d c) i ≤ 65536) := fun i hi => by
    have h := leastR_le c (i - d) (min 30 (i + d) - (i - d)) 0 (Nat.zero_le _)
    have h2 := hc (i - d + 0) (by omega)
    unfold cI driftC farC at *
    omega
  have HQ : Hid (∀ i, i < 31 → 0 ≤ cI (ownC b true) i ∧ cI (ownC b true) i ≤ 65536) := fun i hi => by
    have h := ownC_far b true i hb.2.2.2 hb.2.2.1 hb.2.1
    unfold cI farC at *
    omega
  have HE : Hid (costV (fun i => min 65536 (cI (driftC d c) i + cI (ownC b true) i)) = costV (cI (plusC (driftC d c) (ownC b true)))) := costV_congr fun i _ => by
    unfold cI plusC farC
    omega
  have HBK := Lib.hid hb
  have hz := Try.zero162
  have wl := HC.out.lt
  unfold costV at hz ⊢
  unfold baleC
  unfold baleC at hW HX
  clear hb hc
  go_enter Try.func135, Try.ntmps135
  go_upto_region 1 with (fail)
  rw [← hW]
  clear hW hz
  go_upto_region 2 with (fail)
  have x0 := HX.out.cell 0
  have xl := HX.out.lt
  simp at x0
  refine wp_region_havoc [(0,false),(1,false),(2,false),(3,false),(4,false),(5,false),(6,false),(7,false)] [8] (fun _ _ => False) (by kernel_rfl) (by kernel_rfl) (fun _ _ _ _ h => h.elim) ?_
  (apply hav_same (by simp only [List.getElem?_toArray, List.getElem?_cons_zero]; rfl) (by kernel_rfl); (focus (intro wv hgv _; have hcv : ∀ b o, b < _ → wv.cell? ⟨b, o, none⟩ = _ := fun b o hb => Below.cell hgv (p := ⟨b, o, none⟩) hb; (try go_simp); try rfl; done)); simp only [Act.put, List.setIfInBounds_toArray, List.set_cons_succ, List.set_cons_zero])
  iterate 2 (apply hav_same (by simp only [List.getElem?_toArray, List.getElem?_cons_succ, List.getElem?_cons_zero]; rfl) (by kernel_rfl); (focus (intro wv hgv _; have hcv : ∀ b o, b < _ → wv.cell? ⟨b, o, none⟩ = _ := fun b o hb => Below.cell hgv (p := ⟨b, o, none⟩) hb; (try go_simp); try rfl; done)); simp only [Act.put, List.setIfInBounds_toArray, List.set_cons_succ, List.set_cons_zero])
  (apply hav_same (by simp only [List.getElem?_toArray, List.getElem?_cons_succ, List.getElem?_cons_zero]; rfl) (by kernel_rfl); (focus (intro wv hgv _; exact exec_loadW 162 _ rfl rfl (cost_load (HY.out.below hgv HY.out.lt)))); simp only [Act.put, List.setIfInBounds_toArray, List.set_cons_succ, List.set_cons_zero])
  (apply hav_call (by simp only [List.getElem?_toArray, List.getElem?_cons_succ, List.getElem?_cons_zero]; rfl) (by kernel_rfl); (focus (intro wv; go_simp; try exact ⟨rfl, rfl⟩; done)); (focus (intro wv hgv _; have hq := drift_any d hd (cI c) wv; rw [driftI_cI] at hq; exact hq; done)); simp only [Act.put, List.setIfInBounds_toArray, List.set_cons_succ, List.set_cons_zero])
  (apply hav_same (by simp only [List.getElem?_toArray, List.getElem?_cons_succ, List.getElem?_cons_zero]; rfl) (by kernel_rfl); (focus (intro wv hgv _; exact exec_loadW 174 _ rfl rfl (wide_load (cs := baleC d b true) rfl (HX.out.below hgv HX.out.lt) Try.underlying174 size174))); simp only [Act.put, List.setIfInBounds_toArray, List.set_cons_succ, List.set_cons_zero])
  (apply hav_call (by simp only [List.getElem?_toArray, List.getElem?_cons_succ, List.getElem?_cons_zero]; rfl) (by kernel_rfl); (focus (intro wv; go_simp; try exact ⟨rfl, rfl⟩; done)); (focus (intro wv hgv _; exact own_any d b HBK.out wv; done)); simp only [Act.put, List.setIfInBounds_toArray, List.set_cons_succ, List.set_cons_zero])
  (apply hav_call (by simp only [List.getElem?_toArray, List.getElem?_cons_succ, List.getElem?_cons_zero]; rfl) (by kernel_rfl); (focus (intro wv; go_simp; try exact ⟨rfl, rfl⟩; done)); (focus (intro wv hgv _; exact plus_anyC _ _ HP.out HQ.out wv; done)); simp only [Act.put, List.setIfInBounds_toArray, List.set_cons_succ, List.set_cons_zero])
  refine hav_end (fun w1 hgw1 hF => ?_); simp only [List.filterMap]; have hcw1 : ∀ b o, b < _ → w1.cell? ⟨b, o, none⟩ = _ := fun b o hb => Below.cell hgw1 (p := ⟨b, o, none⟩) hb; have hfw1 : ∀ b o, b < _ → w1.frozen? ⟨b, o, none⟩ = _ := fun b o hb => Below.frozen hgw1 (p := ⟨b, o, none⟩) hb; have hzw1 := Below.size hgw1; (try simp at hzw1)
  rw [HE.out]
  have HC1 := Lib.hid (HC.out.below hgw1 HC.out.lt)
  have HB1 : Hid (Below w.heap.size w w1) := HB.out.trans (hgw1.mono HB.out.size)
  have hR := setRow_blk HC1.out (costA (cI (plusC (driftC d c) (ownC b true))))
  have hld := res_load (cost_load hR)
  unfold costV at hld
  clear hgw1 hcw1 hfw1 hF x0 xl wl
  refine wpList_storeW 162 4 13 rfl rfl rfl rfl (cost_store HC1.out _) ?_
  go_wp2_with fail
  refine bodyPost_ret (v := costV (cI (plusC (driftC d c) (ownC b true)))) ?_ rfl ⟨rfl, below_setRow HB1.out (by omega) _⟩
  simp [results, Try.results135, Act.put, hld, costV]
end
end Go.Proofs.Ytbfjebglaimcmaa
