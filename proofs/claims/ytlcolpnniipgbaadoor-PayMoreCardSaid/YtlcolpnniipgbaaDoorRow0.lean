/- A pay that comes in: what its value is, and that it reads as a pay; the listed variable. No condition. What the condition on the listed variable gives the walks; the door's own heap meets it; the row's step, once for all laws. -/
import Derived.Test.YtlcolpnniipgbaaDoorApi6
import Derived.ProofKit
import Derived.LaidMore
import Derived.OpenShut
import Derived.Stop.Joined
import Derived.Deep.Slices
import Derived.Carry
import Derived.Test.YtlcolpnniipgbaaDoorRows
import Derived.LaidLaws
import Derived.Below
namespace Go.Proofs.YtlcolpnniipgbaaDoor
open Go.RowKit Go.Hav Go.ChangeShapes Go.WideShapes Go.Deep
set_option maxRecDepth 100000
theorem list_of {α : Type} (P : Nat → α → Prop) : ∀ n : Nat, (∀ i, i < n → ∃ x, P i x) → ∃ l : List α, l.length = n ∧ ∀ i x, l[i]? = some x → P i x := by
  intro n
  induction n with
  | zero => intro _; exact ⟨[], rfl, fun i x h => by simp at h⟩
  | succ n ih =>
    intro h
    obtain ⟨l, hl, hp⟩ := ih (fun i hi => h i (by omega))
    obtain ⟨x, hx⟩ := h n (by omega)
    refine ⟨l ++ [x], by simp [hl], fun i y hy => ?_⟩
    rcases Nat.lt_or_ge i n with hi | hi
    · rw [List.getElem?_append_left (by omega)] at hy
      exact hp i y hy
    · rw [List.getElem?_append_right (by omega)] at hy
      by_cases e : i = n
      · subst e
        rw [hl, Nat.sub_self] at hy
        obtain rfl : x = y := by simpa using hy
        exact hx
      · rw [hl, List.getElem?_eq_none (by simp; omega)] at hy
        cases hy
section
variable {H : Type} {enc : TypeId × Value → H} {W : World} {base : Nat} {spare : Nat → Bool} {held : Bool}
/-- What a slice that comes in holds: the cells of each element, and each reads. -/
theorem open_rows {t e : TypeId} {fuel sz : Nat} {c : Value} {x : DataW H × List MemPlace} (ht : Tryd.prog.underlying t = some (.slice e)) (hc : Tryd.prog.cellsOf e = sz) (h0 : 0 < sz) (h : DataW.trod enc Tryd.prog W base spare held fuel t [c] = some x) :
    ∃ (A : Option Addr) (len cap : Nat), c = .slice A len cap ∧ len ≤ maxLen ∧ ∀ i, i < len → ∃ (b off n : Nat) (cs : List Value) (y : DataW H × List MemPlace), A = some ⟨b, off, none⟩ ∧ cs.length = sz ∧ (∀ j v, cs[j]? = some v → W.cell? ⟨b, off + (i * sz + j), none⟩ = some v) ∧ DataW.trod enc Tryd.prog W base spare held n e cs = some y := by
  rcases open_slice ht h with ⟨e1, _⟩ | ⟨a, len, cap, m, n, D, Pl, e1, _, hl, hm, hmm, _, hi⟩
  · obtain rfl : c = .slice none 0 0 := by simpa using e1
    exact ⟨none, 0, 0, rfl, Nat.zero_le _, fun i hi => by omega⟩
  · obtain rfl : c = .slice (some a) len cap := by simpa using e1
    refine ⟨some a, len, cap, rfl, Nat.le_trans hl hm, fun i hlt => ?_⟩
    obtain ⟨cs, hcs, ht⟩ := hi i (by rw [hmm]; split <;> omega)
    rw [hc] at hcs
    obtain ⟨_, hlen, hat⟩ := World.cells?_some hcs
    -- the address has no spot
    obtain ⟨cs0, hcs0, _⟩ := hi 0 (by rw [hmm]; split <;> omega)
    rw [hc, Nat.zero_mul] at hcs0
    obtain ⟨_, hlen0, hat0⟩ := World.cells?_some hcs0
    have h00 := hat0 0 h0
    rw [List.getElem?_eq_getElem (by omega)] at h00
    have hs : a.spot = none := by
      have := World.cell?_spot h00
      simpa [Addr.add] using this
    obtain ⟨b, off, spot⟩ := a
    simp only at hs
    subst hs
    refine ⟨b, off, n, cs, _, rfl, hlen, fun j v hv => ?_, ht⟩
    have hj : j < sz := by rw [← hlen]; exact (List.getElem?_eq_some_iff.1 hv).1
    have h1 := hat j hj
    rw [hv] at h1
    rw [← h1]
    congr 1
    unfold Addr.add
    split <;> split <;> simp_all <;> omega
theorem one_int {n : Nat} {cs : List Value} {y : DataW H × List MemPlace} (h : DataW.trod enc Tryd.prog W base spare held n 3 cs = some y) : ∃ a, cs = [.int .i64 a] := by
  obtain ⟨a, e, _⟩ := DataW.trod_int Tryd.underlying3 h
  exact ⟨a, e⟩
theorem two_ints {n : Nat} {cs : List Value} {y : DataW H × List MemPlace} (h : DataW.trod enc Tryd.prog W base spare held n 34 cs = some y) : ∃ a b, cs = [.int .i64 a, .int .i64 b] := by
  have c3 : Tryd.prog.cellsOf 3 = 1 := by kernel_rfl
  have c34 : Tryd.prog.cellsOf 34 = 2 := by kernel_rfl
  obtain ⟨xs, m, _, _, hlen, hx, hf⟩ := DataW.trod_struct Tryd.underlying34 h
  rw [c34] at hlen
  match cs, hlen with
  | [u, v], _ =>
    match xs, hx with
    | [x0, x1], _ =>
      obtain ⟨a, ha⟩ := one_int (hf 0 _ rfl)
      obtain ⟨b, hb⟩ := one_int (hf 1 _ rfl)
      simp [c3] at ha hb
      exact ⟨a, b, by rw [ha, hb]⟩
theorem call_cells {n : Nat} {cs : List Value} {y : DataW H × List MemPlace} (h : DataW.trod enc Tryd.prog W base spare held n 55 cs = some y) : ∃ c : Ca, cs = caF c := by
  have c3 : Tryd.prog.cellsOf 3 = 1 := by kernel_rfl
  have c4 : Tryd.prog.cellsOf 4 = 1 := by kernel_rfl
  have c34 : Tryd.prog.cellsOf 34 = 2 := by kernel_rfl
  have c55 : Tryd.prog.cellsOf 55 = 5 := by kernel_rfl
  obtain ⟨xs, m, _, _, hlen, hx, hf⟩ := DataW.trod_struct Tryd.underlying55 h
  rw [c55] at hlen
  match cs, hlen with
  | [u0, u1, u2, u3, u4], _ =>
    match xs, hx with
    | [x0, x1, x2, x3], _ =>
      obtain ⟨a, ha⟩ := one_int (hf 0 _ rfl)
      obtain ⟨b, hb⟩ := one_int (hf 1 _ rfl)
      obtain ⟨c, d, hcd⟩ := two_ints (hf 2 _ rfl)
      obtain ⟨s, hs, _⟩ := DataW.trod_bool Tryd.underlying4 (show DataW.trod enc Tryd.prog W base spare held m 4 _ = some x3 from hf 3 _ rfl)
      simp [c3, c4, c34] at ha hb hcd hs
      exact ⟨⟨a, b, ⟨c, d⟩, s⟩, by simp [caF, ha, hb, hcd, hs]⟩
theorem paid_cells {n : Nat} {cs : List Value} {y : DataW H × List MemPlace} (h : DataW.trod enc Tryd.prog W base spare held n 49 cs = some y) : ∃ c : Pd, cs = pdF c := by
  have c3 : Tryd.prog.cellsOf 3 = 1 := by kernel_rfl
  have c49 : Tryd.prog.cellsOf 49 = 3 := by kernel_rfl
  obtain ⟨xs, m, _, _, hlen, hx, hf⟩ := DataW.trod_struct Tryd.underlying49 h
  rw [c49] at hlen
  match cs, hlen with
  | [u0, u1, u2], _ =>
    match xs, hx with
    | [x0, x1, x2], _ =>
      obtain ⟨a, ha⟩ := one_int (hf 0 _ rfl)
      obtain ⟨b, hb⟩ := one_int (hf 1 _ rfl)
      obtain ⟨c, hc⟩ := one_int (hf 2 _ rfl)
      simp [c3] at ha hb hc
      exact ⟨⟨a, b, c⟩, by simp [pdF, ha, hb, hc]⟩
/-- A slice that comes in, as a list. -/
theorem rows_list {α : Type} {f : α → List Value} {A : Option Addr} {len sz : Nat} {e : TypeId} (he : ∀ (n : Nat) (cs : List Value) (y : DataW H × List MemPlace), DataW.trod enc Tryd.prog W base spare held n e cs = some y → ∃ x, cs = f x) (hf0 : ∀ x, 0 < (f x).length)
    (h : ∀ i, i < len → ∃ (b off n : Nat) (cs : List Value) (y : DataW H × List MemPlace), A = some ⟨b, off, none⟩ ∧ cs.length = sz ∧ (∀ j v, cs[j]? = some v → W.cell? ⟨b, off + (i * sz + j), none⟩ = some v) ∧ DataW.trod enc Tryd.prog W base spare held n e cs = some y) :
    ∃ l : List α, l.length = len ∧ RdG f sz W W.heap.size A l := by
  obtain ⟨l, hl, hp⟩ := list_of (fun i x => ∃ b off, A = some ⟨b, off, none⟩ ∧ b < W.heap.size ∧ ∀ j u, (f x)[j]? = some u → W.cell? ⟨b, off + (i * sz + j), none⟩ = some u) len (fun i hi => by
    obtain ⟨b, off, n, cs, y, e1, _, hc, ht⟩ := h i hi
    obtain ⟨x, rfl⟩ := he n cs y ht
    refine ⟨x, b, off, e1, ?_, hc⟩
    have h0 := hc 0 _ (List.getElem?_eq_getElem (hf0 x))
    rcases Nat.lt_or_ge b W.heap.size with hlt | hge
    · exact hlt
    · unfold World.cell? at h0
      simp [Array.getElem?_eq_none hge] at h0)
  exact ⟨l, hl, fun k x hx => hp k x hx⟩
theorem open_pay {r : Reach} {b0 : Nat} {v : Value} {d : DataW H} {p : List MemPlace} (hv : Value.okWide Tryd.prog W r b0 27 v) (h : DataW.Trod enc Tryd.prog W base spare held 27 v d p) :
    ∃ (people rate bill : Int) (ra ca da pa : Option Addr) (rl rc cl cc dl dc pl pc : Nat) (q : PayD), v = payV people ra rl rc ca cl cc rate bill da dl dc pa pl pc ∧ PayIn W W.heap.size people ra rl ca cl rate bill da dl pa pl q := by
  have c3 : Tryd.prog.cellsOf 3 = 1 := by kernel_rfl
  have c22 : Tryd.prog.cellsOf 22 = 1 := by kernel_rfl
  have c23 : Tryd.prog.cellsOf 23 = 1 := by kernel_rfl
  have c24 : Tryd.prog.cellsOf 24 = 1 := by kernel_rfl
  have c25 : Tryd.prog.cellsOf 25 = 1 := by kernel_rfl
  have c27 : Tryd.prog.cellsOf 27 = 7 := by kernel_rfl
  obtain ⟨cs, rfl, hsz⟩ := okWide_struct Tryd.underlying27 hv
  rw [c27] at hsz
  obtain ⟨l⟩ := cs
  match l, hsz with
  | [u0, u1, u2, u3, u4, u5, u6], _ =>
    obtain ⟨fuel, hf⟩ := h
    obtain ⟨xs, m, _, _, _, hx, hg⟩ := DataW.trod_struct Tryd.underlying27 hf
    match xs, hx with
    | [x0, x1, x2, x3, x4, x5, x6], _ =>
      have g0 := hg 0 _ rfl
      have g1 := hg 1 _ rfl
      have g2 := hg 2 _ rfl
      have g3 := hg 3 _ rfl
      have g4 := hg 4 _ rfl
      have g5 := hg 5 _ rfl
      have g6 := hg 6 _ rfl
      simp [Value.cells, c3, c22, c23, c24, c25] at g0 g1 g2 g3 g4 g5 g6
      obtain ⟨people, e0⟩ := one_int g0
      obtain ⟨rate, e3⟩ := one_int g3
      obtain ⟨bill, e4⟩ := one_int g4
      obtain rfl : u0 = .int .i64 people := by simpa using e0
      obtain rfl : u3 = .int .i64 rate := by simpa using e3
      obtain rfl : u4 = .int .i64 bill := by simpa using e4
      obtain ⟨ra, rl, rc, rfl, m1, h1⟩ := open_rows (sz := 2) Tryd.underlying22 (by kernel_rfl) (by decide) g1
      obtain ⟨ca, cl, cc, rfl, m2, h2⟩ := open_rows (sz := 5) Tryd.underlying23 (by kernel_rfl) (by decide) g2
      obtain ⟨da, dl, dc, rfl, m5, h5⟩ := open_rows (sz := 1) Tryd.underlying24 (by kernel_rfl) (by decide) g5
      obtain ⟨pa, pl, pc, rfl, m6, h6⟩ := open_rows (sz := 3) Tryd.underlying25 (by kernel_rfl) (by decide) g6
      obtain ⟨runs, k1, r1⟩ := rows_list (f := spF) (fun n cs y h => by obtain ⟨a, b, e⟩ := two_ints h; exact ⟨⟨a, b⟩, e⟩) (fun x => by simp [spF]) h1
      obtain ⟨calls, k2, r2⟩ := rows_list (f := caF) (fun n cs y h => call_cells h) (fun x => by simp [caF]) h2
      obtain ⟨days, k5, r5⟩ := rows_list (f := inF) (fun n cs y h => one_int h) (fun x => by simp [inF]) h5
      obtain ⟨paid, k6, r6⟩ := rows_list (f := pdF) (fun n cs y h => paid_cells h) (fun x => by simp [pdF]) h6
      unfold maxLen at m1 m2 m5 m6
      exact ⟨people, rate, bill, ra, ca, da, pa, rl, rc, cl, cc, dl, dc, pl, pc, ⟨people, runs, calls, rate, bill, days, paid⟩, rfl,
        rfl, rfl, rfl, k1, k2, k5, k6, by omega, by omega, by omega, by omega, RdSpans.of_g r1, RdCalls.of_g r2, RdInts.of_g r5, RdPaid.of_g r6⟩
end
end Go.Proofs.YtlcolpnniipgbaaDoor
namespace Go.Proofs.YtlcolpnniipgbaaDoor
open Go.ChangeShapes Go.WideShapes Go.ChangeAt Go.RowKit
set_option maxRecDepth 100000
theorem name_plain {P : Program} {nm : String} {tp : TypeId} (hrows : ((List.range P.types.size).all fun u => P.typeName? 3 u != some nm || u == tp) = true) (hstar : nm.toList.head? ≠ some '*') (u : TypeId) (hu : P.typeName? 3 u = some nm) : u = tp := by
  by_cases hlt : u < P.types.size
  · have := List.all_eq_true.1 hrows u (List.mem_range.2 hlt)
    simpa [hu] using this
  · exfalso
    unfold Program.typeName? at hu
    cases hi : P.info? u with
    | none => simp [hi] at hu
    | some i =>
      have hb := Tables.info?_beyond hlt hi
      simp only [hi] at hu
      cases hd : i.desc <;> simp only [hd, TypeDesc.tableOnly] at hu hb <;> try cases hb
      all_goals try cases hu
      rename_i e
      simp only [Option.map_eq_some_iff] at hu
      obtain ⟨n', hn', hs⟩ := hu
      apply hstar
      rw [← hs]
      simp [String.toList_append]
theorem row144 (u : TypeId) (h : Tryd.prog.typeName? 3 u = some "shearworks/pay.twice") : u = 144 := name_plain (by kernel_rfl) (by decide) u h
theorem row145 (u : TypeId) (h : Tryd.prog.typeName? 3 u = some "shearworks/pay.none") : u = 145 := name_plain (by kernel_rfl) (by decide) u h
theorem row146 (u : TypeId) (h : Tryd.prog.typeName? 3 u = some "shearworks/pay.much") : u = 146 := name_plain (by kernel_rfl) (by decide) u h
theorem gRules : Tryd.prog.globalNamed "shearworks/pay.rules" = some 0 := by kernel_rfl
theorem tRules : (Tryd.prog.globals[0]?).map (·.type) = some 92 := by kernel_rfl
theorem rowOwn : ownKnob Tryd.prog.godebug = none := by kernel_rfl
theorem rowLaidOut : laidOutB Tryd.prog = true := by kernel_rfl
theorem nil_of_trod {H : Type} {enc : TypeId × Value → H} {P : Program} {W : World} {base : Nat} {sp : Nat → Bool} {fuel : Nat} {ti : TypeId} {ms : Array (String × TypeId)} {cs : List Value} {p : List MemPlace} (hi : P.underlying ti = some (.interface ms))
    (h : DataW.trod enc P W base sp false fuel ti cs = some (.nil, p)) : cs = [.nilIface] := by
  cases fuel with
  | zero => simp [DataW.trod] at h
  | succ fuel =>
    match cs with
    | [] => simp [DataW.trod, hi] at h
    | _ :: _ :: _ => simp [DataW.trod, hi] at h
    | [c] =>
      cases c <;> simp [DataW.trod, hi] at h ⊢
      rename_i u v
      split at h <;> simp at h
theorem of_laid {W : World} (h : laidMetH Tryd.prog [("shearworks/pay.rules", Rows.laid_shearworks_pay_rules)] W) : RulesIn W := by
  rw [MakeChecks.laidMetH_plain _ _ _ (by kernel_rfl)] at h
  obtain ⟨ps, ⟨g0, t0, cs0, f0, p0, q0, hg0, ht0, hv0, hd0, _, rfl⟩, _, hok⟩ := h
  obtain rfl := Option.some.inj (gRules.symm.trans hg0)
  obtain rfl := Option.some.inj (tRules.symm.trans ht0)
  have c91 : Tryd.prog.cellsOf 91 = 1 := by kernel_rfl
  have c92 : Tryd.prog.cellsOf 92 = 4 := by kernel_rfl
  obtain ⟨xs, m, rfl, hx, hlen, hn, hel⟩ := DataW.trod_array Tryd.underlying92 hd0
  rw [c92] at hlen
  have v0 := World.var?_cell hg0 hv0 0
  have v1 := World.var?_cell hg0 hv0 1
  have v2 := World.var?_cell hg0 hv0 2
  have v3 := World.var?_cell hg0 hv0 3
  have e0 := hel 0 (by decide)
  have e1 := hel 1 (by decide)
  have e2 := hel 2 (by decide)
  have e3 := hel 3 (by decide)
  obtain ⟨l⟩ := cs0
  match l, hlen, xs, hn with
  | [a, b, c, d], _, [x0, x1, x2, x3], _ =>
    obtain ⟨d0, p0⟩ := x0
    obtain ⟨d1, p1⟩ := x1
    obtain ⟨d2, p2⟩ := x2
    obtain ⟨d3, p3⟩ := x3
    simp [Rows.laid_shearworks_pay_rules] at hx
    simp [c91] at v0 v1 v2 v3 e0 e1 e2 e3
    obtain ⟨⟨rfl, rfl, rfl, rfl⟩, _⟩ := hx
    obtain rfl : a = .nilIface := by simpa using nil_of_trod Tryd.underlying91 e0
    obtain ⟨_, u1, w1, k1, n1, z1⟩ := iface_of_trod Tryd.underlying91 e1
    obtain ⟨_, u2, w2, k2, n2, z2⟩ := iface_of_trod Tryd.underlying91 e2
    obtain ⟨_, u3, w3, k3, n3, z3⟩ := iface_of_trod Tryd.underlying91 e3
    obtain rfl := row144 u1 n1
    obtain rfl := row145 u2 n2
    obtain rfl := row146 u3 n3
    obtain rfl : b = .iface 144 w1 := by simpa using k1
    obtain rfl : c = .iface 145 w2 := by simpa using k2
    obtain rfl : d = .iface 146 w3 := by simpa using k3
    have o1 := (hok 0 1 (by simp [MemPlace.row])).2 _ _ v1
    have o2 := (hok 0 2 (by simp [MemPlace.row])).2 _ _ v2
    have o3 := (hok 0 3 (by simp [MemPlace.row])).2 _ _ v3
    have c144 : Tryd.prog.cellsOf 144 = 0 := by kernel_rfl
    have c145 : Tryd.prog.cellsOf 145 = 0 := by kernel_rfl
    have c146 : Tryd.prog.cellsOf 146 = 0 := by kernel_rfl
    obtain ⟨s1, rfl, g1⟩ := okWide_struct Tryd.underlying144 o1
    obtain ⟨s2, rfl, g2⟩ := okWide_struct Tryd.underlying145 o2
    obtain ⟨s3, rfl, g3⟩ := okWide_struct Tryd.underlying146 o3
    rw [c144] at g1
    rw [c145] at g2
    rw [c146] at g3
    obtain rfl := Array.eq_empty_of_size_eq_zero g1
    obtain rfl := Array.eq_empty_of_size_eq_zero g2
    obtain rfl := Array.eq_empty_of_size_eq_zero g3
    refine ⟨?_, v0, v1, v2, v3⟩
    rcases Nat.eq_zero_or_pos W.heap.size with h0 | h0
    · unfold World.cell? at v0
      simp [Array.getElem?_eq_none (show W.heap.size ≤ 0 by omega)] at v0
    · exact h0
/-- The door's own heap meets the condition. -/
theorem door_met (os : Os) (args : Array Value) : laidMetH Tryd.prog [("shearworks/pay.rules", Rows.laid_shearworks_pay_rules)] ((World.doorLaid Tryd.prog 20 os).forCall (fun _ _ => 0) ⟨#[], args, []⟩).memory :=
  laidMetH_of_parts3 (fuel := 8) (laidMet_of_run' 8 (by kernel_rfl) (by kernel_rfl)) (by kernel_rfl) (by kernel_rfl)
end Go.Proofs.YtlcolpnniipgbaaDoor
