/- The walk of all; lists of sheep that are built by append. The walks of out, sheep. -/
import Derived.Test.YtlcolpnniipgbaaDoorDesk1
import Derived.Test.YtlcolpnniipgbaaDoorMem
import Derived.Test.YtlcolpnniipgbaaDoorPlain1
import Derived.Laws.AppendOwn
import Derived.Laws.OwnMore
namespace Go.Proofs.YtlcolpnniipgbaaDoor
open Go.RowKit Go.Hav

theorem sumK_app (l m : List Sp) : ∀ k, k ≤ l.length → sumK (l ++ m) k = sumK l k := by
  intro k
  induction k with
  | zero => intro _; rfl
  | succ k ih => intro hk; rw [sumK, sumK, ih (by omega), List.getElem?_append_left (by omega)]
theorem sumK_snoc (l : List Sp) (x : Sp) : sumK (l ++ [x]) (l ++ [x]).length = plusS (sumK l l.length) x := by
  rw [List.length_append, List.length_singleton, sumK, sumK_app l [x] _ (Nat.le_refl _)]
  simp
def allL (p : PayD) (run but : Int) : Nat → List Sp
  | 0 => []
  | k + 1 => if (k : Int) = but then allL p run but k else allL p run but k ++ [calledS p k run]
theorem allL_len (p : PayD) (run but : Int) : ∀ k, (allL p run but k).length ≤ k := by
  intro k
  induction k with
  | zero => simp [allL]
  | succ k ih =>
    rw [allL]
    split
    · omega
    · rw [List.length_append, List.length_singleton]; omega
theorem loF_succ (p : PayD) (run who k0 : Int) : ∀ (n : Nat) (first : Int), loF p run who k0 (n + 1) first = loF p run who k0 n first + (if first + n = who then k0 else (calledS p (first + n) run).lo) ∧
    hiF p run who k0 (n + 1) first = hiF p run who k0 n first + (if first + n = who then k0 else (calledS p (first + n) run).hi) := by
  intro n
  induction n with
  | zero => intro first; simp [loF, hiF]
  | succ n ih =>
    intro first
    have h := ih (first + 1)
    have e : first + 1 + (n : Int) = first + ((n + 1 : Nat) : Int) := by omega
    rw [e] at h
    rw [loF, h.1, hiF, h.2]
    constructor
    · rw [show loF p run who k0 (n + 1) first = (if first = who then k0 else (calledS p first run).lo) + loF p run who k0 n (first + 1) from rfl]; omega
    · rw [show hiF p run who k0 (n + 1) first = (if first = who then k0 else (calledS p first run).hi) + hiF p run who k0 n (first + 1) from rfl]; omega
theorem allL_sum (p : PayD) (run but : Int) : ∀ k : Nat, sumK (allL p run but k) (allL p run but k).length = ⟨loF p run but 0 k 0, hiF p run but 0 k 0⟩ := by
  intro k
  induction k with
  | zero => rfl
  | succ k ih =>
    have h := loF_succ p run but 0 k 0
    rw [allL, h.1, h.2]
    simp only [Int.zero_add]
    split
    · rw [ih]; simp
    · rw [sumK_snoc, ih]; rfl
theorem allL_ok {p : PayD} (h : payB p = true) (run but : Int) : ∀ (k : Nat), ∀ x ∈ allL p run but k, midS 1000000 x := by
  intro k
  induction k with
  | zero => intro x hx; simp [allL] at hx
  | succ k ih =>
    intro x hx
    rw [allL] at hx
    split at hx
    · exact ih x hx
    · rcases List.mem_append.1 hx with hx | hx
      · exact ih x hx
      · simp only [List.mem_singleton] at hx
        subst hx
        have := calledS_ok h k run
        unfold midS
        omega
theorem Tryd.infoE80 : (Tryd.prog.info? 80).map (fun i => (i.zero, i.size, i.bytes)) = some (some (.agg #[.int .i64 0, .int .i64 0]), 2, 16) := by kernel_rfl
theorem own_below {w w' : World} {B e size n : Nat} {v : Value} {xs : List Value} (h : w.ownsRow B e size v n xs) (hb : Below w.heap.size w w') : w'.ownsRow B e size v n xs := by
  refine ⟨h.1, ?_⟩
  rcases h.2 with h0 | ⟨g, cap, cur, rfl, hg, hh, rest⟩
  · exact .inl h0
  · exact .inr ⟨g, cap, cur, rfl, hg, (hb.block g (Array.getElem?_eq_some_iff.1 hh).1).trans hh, rest⟩
/-- A row of spans that the call has built: as a slice it reads as the list. -/
theorem own_spans {w : World} {B e : Nat} {v : Value} {l : List Sp} (h : w.ownsRow B e 2 v l.length (l.flatMap spF)) :
    ∃ A cp, v = .slice A l.length cp ∧ RdSpans w w.heap.size A l := by
  rcases h.2 with ⟨rfl, h0⟩ | ⟨g, cap, cur, rfl, hg, hh, hle, _⟩
  · have : l = [] := List.length_eq_zero_iff.1 h0
    subst this
    exact ⟨none, 0, rfl, fun k c hc => by simp at hc⟩
  · exact ⟨_, cap, rfl, RdSpans.of_g (RdG.of_own spF_len (by decide) h (Nat.le_refl _) rfl)⟩

theorem news2 (w1 : World) (c : Sp) : ∀ j u, (spF c)[j]? = some u → (w1.alloc (.cells #[.int .i64 c.lo, .int .i64 c.hi] 80)).cell? ((⟨w1.heap.size, 0, none⟩ : Addr).add j) = some u := by
  intro j u hu
  have h0 := (Blk.new w1 80 #[.int .i64 c.lo, .int .i64 c.hi]).cell j
  rcases j with _ | _ | j
  · simp [spF] at hu; subst hu; exact h0
  · simp [spF] at hu; subst hu; exact h0
  · simp [spF] at hu
section
variable {B d r : Nat} {people rate bill : Int} {ra ca da pa : Option Addr} {rl rc cl cc dl dc pl pc : Nat} {p : PayD}
set_option maxRecDepth 100000 in
set_option maxHeartbeats 1600000 in
theorem all_any (hv : payB p = true) (run but : Int) (hr0 : 0 ≤ run) (hr1 : run ≤ 1000) (w : World) (hD : DeskM w B d r people ra rl rc ca cl cc rate bill da dl dc pa pl pc p) :
    Calls Tryd.prog 83 #[(.pointer (some ⟨d, 0, none⟩)), .int .i64 run, .int .i64 but] w fun e w' => e = .returned (spV (allS p run but)) ∧ Below w.heap.size w w' := by
  have HD := Lib.hid hD
  have HV := Lib.hid hv
  have p0 := hD.desk.c0
  have hdw : d < w.heap.size := Nat.lt_of_lt_of_le hD.desk.hd hD.desk.hB
  have hb := payB_people hv
  have hpe := hD.desk.pay.epeople
  obtain ⟨n, rfl⟩ : ∃ n : Nat, people = n := ⟨people.toNat, by omega⟩
  have hn : n ≤ 4 := by omega
  have HF : Hid (allS p run but = sumK (allL p run but n) (allL p run but n).length) := by
    show _ = _; rw [allL_sum, allS, hpe]; rfl
  obtain ⟨i0, hi, hz0, hz1, hz2⟩ := info_parts Tryd.infoE80
  have HI := Lib.hid hi
  have HI0 := Lib.hid hz0
  have HI1 := Lib.hid hz1
  have HI2 := Lib.hid hz2
  clear hv hD hb hpe hi hz0 hz1 hz2
  go_enter Tryd.func83, Tryd.ntmps83
  go_wp2
  go_loopw [7, 14] (fun l i wr => ∃ k : Nat, k ≤ n ∧ i = .int .i64 k ∧ wr.ownsRow (w.heap.size + 1) 80 2 l (allL p run but k).length ((allL p run but k).flatMap spF) ∧
      Blk wr w.heap.size 80 #[.int .i64 0, .int .i64 0] ∧ Below w.heap.size w wr) (fun _ i _ => n - (intOf i).toNat)
  case atStart => exact ⟨0, Nat.zero_le _, rfl, World.ownsRow_nil _ _ _ _, Blk.new_ (by simp) _ _, (Below.refl w.heap.size w).alloc (by simp) _⟩
  case round =>
    obtain ⟨k, hk, rfl, hown, hblk, hbw⟩ := hrel
    have HO := Lib.hid hown
    have HB := Lib.hid hbw
    have HK := Lib.hid hblk
    have hlt0 := hblk.lt
    clear hown hblk hbw
    by_cases hlt : k < n
    · by_cases hbut : (k : Int) = but
      · have HL : Hid (allL p run but (k + 1) = allL p run but k) := by show _ = _; rw [allL, if_pos hbut]
        go_wp2
        go_roundw
        case rel => exact ⟨k + 1, by omega, by go_num, by rw [HL.out]; exact HO.out, HK.out, HB.out⟩
        case measure => simp [intOf]; omega
      · have HL : Hid (allL p run but (k + 1) = allL p run but k ++ [calledS p k run]) := by show _ = _; rw [allL, if_neg hbut]
        go_wp2_with fail
        refine (dcalled_any (p := p) k run (by omega) (by omega) hr0 hr1 _ (by exact HD.out.grow HB.out)).mono ?_
        unfold spV
        rintro e w1 ⟨rfl, hbw1⟩; obtain ⟨hcw1, hfw1⟩ := bcell hbw1; have hzw1 := hbw1.size; (try simp at hzw1)
        obtain ⟨c, HC⟩ : ∃ c, Hid (calledS p k run = c) := ⟨_, rfl⟩
        rw [HC.out] at HL ⊢
        have HB1 : Hid (Below w.heap.size w w1) := HB.out.trans (hbw1.mono (by omega))
        have HOWN := Lib.hid ((own_below HO.out hbw1).alloc (.cells #[.int .i64 c.lo, .int .i64 c.hi] 80))
        have HLEN := Lib.hid (allL_len p run but k)
        go_wp2_with (go_loud (at_builtin; refine wpList_append_own _ rfl _ _ 111 rfl (w.heap.size + 1) 80 i0 _ 2 16 Tryd.underlying111 HI.out HI0.out HI1.out HI2.out rfl (by decide) _ _ _ rfl HOWN.out ⟨w1.heap.size, 0, none⟩ 1 1 (spF c) rfl rfl (news2 w1 c) (by simp [spF, Value.oneCell']) (by have := HLEN.out; unfold maxLen; omega) (by have := HLEN.out; omega) (by simp; omega) ?_))
        intro v' w2 hown2 hgrow2 _
        have HO2 := Lib.hid hown2
        have HG2 : Hid (Below w.heap.size w w2) := Below.grown (HB1.out.alloc (by omega) _) hgrow2 (by simp; omega) (fun k' hk' => by have := (HOWN.out.lt k' hk').1; omega)
        have HK2 : Hid (Blk w2 w.heap.size 80 #[.int .i64 0, .int .i64 0]) := ((HK.out.below hbw1 (by omega)).alloc _).grown hgrow2 (by intro e; have := (HOWN.out.lt _ e.symm).1; omega)
        clear hown2 hgrow2
        go_wp2
        go_roundw
        case rel => exact ⟨k + 1, by omega, by go_num, by rw [HL.out, List.length_append, List.flatMap_append, List.flatMap_singleton]; exact HO2.out, HK2.out, HG2.out⟩
        case measure => simp [intOf]; omega
    · obtain rfl : n = k := by omega
      obtain ⟨A, cp, rfl, hrs⟩ := own_spans HO.out
      have HRS := Lib.hid hrs
      have HLEN := Lib.hid (allL_len p run but n)
      have r0 : wr.cell? ⟨w.heap.size, 0, none⟩ = some (.int .i64 0) := HK.out.cell 0
      have r1 : wr.cell? ⟨w.heap.size, 1, none⟩ = some (.int .i64 0) := HK.out.cell 1
      have f0 : wr.frozen? ⟨w.heap.size, 0, none⟩ = false := HK.out.frozen 0
      have f1 : wr.frozen? ⟨w.heap.size, 1, none⟩ = false := HK.out.frozen 1
      clear hrs
      go_wp2_with fail
      refine (sum_any A _ cp (by have := HLEN.out; omega) (allL p run but n) rfl (allL_ok HV.out run but n) _ (by exact HRS.out)).mono ?_
      obtain ⟨c, HC⟩ : ∃ c, Hid (allS p run but = c) := ⟨_, rfl⟩
      rw [← HF.out, HC.out]
      unfold spV
      rintro e w1 ⟨rfl, hbw1⟩; obtain ⟨hcw1, hfw1⟩ := bcell hbw1; have hzw1 := hbw1.size; (try simp at hzw1)
      go_wp2
      have e0 := (((HK.out.below hbw1 (by omega)).set_ 0 (.int .i64 c.lo)).set_ 1 (.int .i64 c.hi)).cell 0
      have e1 := (((HK.out.below hbw1 (by omega)).set_ 0 (.int .i64 c.lo)).set_ 1 (.int .i64 c.hi)).cell 1
      refine bodyPost_ret (v := spV c) (by simp [results, Tryd.results83, go_sem, e0, e1, spV]) rfl ⟨by rw [HC.out], ?_⟩
      exact ((HB.out.trans (hbw1.mono (by omega))).setCell (by simp) _).setCell (by simp) _
end
end Go.Proofs.YtlcolpnniipgbaaDoor
namespace Go.Proofs.YtlcolpnniipgbaaDoor
open Go.RowKit Go.Hav
section
variable {B d r : Nat} {people rate bill : Int} {ra ca da pa : Option Addr} {rl rc cl cc dl dc pl pc : Nat} {p : PayD}
theorem outS_eq (p : PayD) (run : Int) : outS p run = commonS (allS p run (-1)) (runS p run) := rfl
theorem sheepS_eq (p : PayD) (who run : Int) : sheepS p who run = commonS (calledS p who run) (lessS (runS p run) (allS p run who)) := rfl
set_option maxHeartbeats 1600000 in
theorem out_any (hv : payB p = true) (run : Int) (hr0 : 0 ≤ run) (hr1 : run < rl) (w : World) (hD : DeskM w B d r people ra rl rc ca cl cc rate bill da dl dc pa pl pc p) :
    Calls Tryd.prog 56 #[(.pointer (some ⟨d, 0, none⟩)), .int .i64 run] w fun e w' => e = .returned (spV (outS p run)) ∧ Below w.heap.size w w' := by
  have HD := Lib.hid hD
  have HV := Lib.hid hv
  have hmf : ∀ (fn : Fn) (first cap : Array Value) (w : World), (Instr.makeFunc fn first cap).run Tryd.prog w = .ok (.func fn first cap) w := fun _ _ _ _ => rfl
  have p1 := hD.desk.c1
  have hdw : d < w.heap.size := Nat.lt_of_lt_of_le hD.desk.hd hD.desk.hB
  have hrl := hD.desk.pay.erl
  have hb := payB_people hv
  obtain ⟨k, rfl⟩ : ∃ k : Nat, run = k := ⟨run.toNat, by omega⟩
  obtain ⟨R, hR⟩ : ∃ R, p.runs[k]? = some R := ⟨p.runs[k]'(by omega), by simp⟩
  have HR : Hid (runS p k = R) := by show _ = _; rw [runS, Int.toNat_natCast, hR]
  obtain ⟨b, off, rfl, hbl, H0, H1⟩ := hD.desk.pay.hruns k R hR
  have hbw : b < w.heap.size := Nat.lt_of_lt_of_le hbl hD.desk.hB
  obtain ⟨R0, R1⟩ := R
  simp only at H0 H1
  have hr2 : (k : Int) ≤ 1000 := by omega
  have mrl := hD.desk.pay.mrl
  have HO : Hid (outS p k = commonS (allS p k (-1)) ⟨R0, R1⟩) := by show _ = _; rw [outS_eq, HR.out]
  clear hD hv hrl hb hR
  go_enter Tryd.func56, Tryd.ntmps56
  go_wp2_with fail
  refine (all_any (p := p) HV.out k (-1) hr0 hr2 _ (by exact HD.out.grow (by repeat (first | exact Below.refl _ _ | assumption | refine Below.drew ?_ | refine below_drewN ?_ _ | refine Below.alloc ?_ (by (try simp) <;> omega) _ | refine Below.setCell ?_ (by (try simp) <;> omega) _ | refine Below.trans ?_ (Below.mono (by assumption) (by (try simp) <;> omega)))))).mono ?_
  generalize allS p k (-1) = A at *
  unfold spV
  rintro e w1 ⟨rfl, hbw1⟩; obtain ⟨hcw1, hfw1⟩ := bcell hbw1; have hzw1 := hbw1.size; (try simp at hzw1)
  have q1 : w.heap.size < w1.heap.size := by omega
  have q2 : d < w1.heap.size := by omega
  have q3 : b < w1.heap.size := by omega
  have q4 : d < w.heap.size + 1 := by omega
  have q5 : b < w.heap.size + 1 := by omega
  go_wp2_with fail
  refine (common_any A ⟨R0, R1⟩ _).mono ?_
  generalize commonS A ⟨R0, R1⟩ = C at *
  unfold spV
  rintro e w2 ⟨rfl, hbw2⟩; obtain ⟨hcw2, hfw2⟩ := bcell hbw2; have hzw2 := hbw2.size; (try simp at hzw2)
  go_wp2
  have HK : Hid (Blk w2 w.heap.size 80 #[.int .i64 0, .int .i64 0]) := ((Blk.new_ rfl 80 _).below hbw1 (by simp)).below hbw2 (by omega)
  have e0 := ((HK.out.set_ 0 (.int .i64 C.lo)).set_ 1 (.int .i64 C.hi)).cell 0
  have e1 := ((HK.out.set_ 0 (.int .i64 C.lo)).set_ 1 (.int .i64 C.hi)).cell 1
  refine bodyPost_ret (v := spV C) (by simp [results, Tryd.results56, go_sem, e0, e1, spV]) rfl ⟨by rw [HO.out], ?_⟩
  exact (((((Below.refl w.heap.size w).alloc (by simp) _).trans (hbw1.mono (by simp))).trans (hbw2.mono (by omega))).setCell (by simp) _).setCell (by simp) _

theorem allS_mid (hv : payB p = true) (run who : Int) : midS 1000000 (allS p run who) := by
  have hb := payB_people hv
  have h := loF_bd hv run who p.people.toNat 0
  have h2 := loF_le hv run who 0 p.people.toNat 0
  unfold midS allS
  simp only
  omega
set_option maxHeartbeats 6400000 in
theorem sheep_any (hv : payB p = true) (who run : Int) (h0 : 0 ≤ who) (h1 : who ≤ 1000) (hr0 : 0 ≤ run) (hr1 : run < rl) (w : World) (hD : DeskM w B d r people ra rl rc ca cl cc rate bill da dl dc pa pl pc p) :
    Calls Tryd.prog 53 #[(.pointer (some ⟨d, 0, none⟩)), .agg #[.int .i64 who, .int .i64 run]] w fun e w' => e = .returned (spV (sheepS p who run)) ∧ Below w.heap.size w w' := by
  have HD := Lib.hid hD
  have HV := Lib.hid hv
  have p1 := hD.desk.c1
  have hdw : d < w.heap.size := Nat.lt_of_lt_of_le hD.desk.hd hD.desk.hB
  have hrl := hD.desk.pay.erl
  have hb := payB_people hv
  obtain ⟨k, rfl⟩ : ∃ k : Nat, run = k := ⟨run.toNat, by omega⟩
  obtain ⟨R, hR⟩ : ∃ R, p.runs[k]? = some R := ⟨p.runs[k]'(by omega), by simp⟩
  have HR : Hid (runS p k = R) := by show _ = _; rw [runS, Int.toNat_natCast, hR]
  have HRM : Hid (midS 1000000000 R) := by
    have := payB_run hv hR
    show midS _ _
    unfold midS; omega
  obtain ⟨b, off, rfl, hbl, H0, H1⟩ := hD.desk.pay.hruns k R hR
  have hbw : b < w.heap.size := Nat.lt_of_lt_of_le hbl hD.desk.hB
  obtain ⟨R0, R1⟩ := R
  simp only at H0 H1
  have hr2 : (k : Int) ≤ 1000 := by omega
  have mrl := hD.desk.pay.mrl
  have HAM : Hid (midS 1000000000 (allS p k who)) := by
    have := allS_mid hv k who
    show midS _ _
    unfold midS at *; omega
  have HO : Hid (sheepS p who k = commonS (calledS p who k) (lessS ⟨R0, R1⟩ (allS p k who))) := by show _ = _; rw [sheepS_eq, HR.out]
  have hd1 : d < w.heap.size + 1 + 1 := by omega
  have hb1 : b < w.heap.size + 1 + 1 := by omega
  clear hD hv hrl hb hR
  go_enter Tryd.func53, Tryd.ntmps53
  go_wp2
  refine wp_region_havoc [(0,false),(1,false),(2,false),(3,false),(4,false),(5,false),(6,false),(7,false),(8,false),(9,false),(10,false),(11,false),(12,false),(13,false),(14,false),(15,false),(16,false),(17,false),(18,false),(19,false),(20,false)] [21] (fun _ _ => False) (by kernel_rfl) (by kernel_rfl) (fun _ _ _ _ h => h.elim) ?_
  iterate 2 (apply hav_same (by simp only [List.getElem?_toArray, List.getElem?_cons_succ, List.getElem?_cons_zero]; rfl) (by kernel_rfl); (focus (intro wv hgv _; have hcv : ∀ b o, b < _ → wv.cell? ⟨b, o, none⟩ = _ := fun b o hb => Below.cell hgv (p := ⟨b, o, none⟩) hb; go_simp; try rfl; done)); simp only [Act.put, List.setIfInBounds_toArray, List.set_cons_succ, List.set_cons_zero])
  (apply hav_call (by simp only [List.getElem?_toArray, List.getElem?_cons_succ, List.getElem?_cons_zero]; rfl) (by kernel_rfl); (focus (intro wv; go_simp; try exact ⟨rfl, rfl⟩; done)); (focus (intro wv hgv _; exact dcalled_any (p := p) who k h0 h1 hr0 hr2 _ (by exact HD.out.grow (Below.trans (by repeat (first | exact Below.refl _ _ | assumption | refine Below.drew ?_ | refine below_drewN ?_ _ | refine Below.alloc ?_ (by (try simp) <;> omega) _ | refine Below.setCell ?_ (by (try simp) <;> omega) _ | refine Below.trans ?_ (Below.mono (by assumption) (by (try simp) <;> omega)))) (Below.mono hgv (by simp <;> omega)))); done)); simp only [Act.put, List.setIfInBounds_toArray, List.set_cons_succ, List.set_cons_zero])
  iterate 15 (apply hav_same (by simp only [List.getElem?_toArray, List.getElem?_cons_succ, List.getElem?_cons_zero]; rfl) (by kernel_rfl); (focus (intro wv hgv _; have hcv : ∀ b o, b < _ → wv.cell? ⟨b, o, none⟩ = _ := fun b o hb => Below.cell hgv (p := ⟨b, o, none⟩) hb; go_simp; try rfl; done)); simp only [Act.put, List.setIfInBounds_toArray, List.set_cons_succ, List.set_cons_zero])
  (apply hav_call (by simp only [List.getElem?_toArray, List.getElem?_cons_succ, List.getElem?_cons_zero]; rfl) (by kernel_rfl); (focus (intro wv; go_simp; try exact ⟨rfl, rfl⟩; done)); (focus (intro wv hgv _; exact all_any (p := p) HV.out k who hr0 hr2 _ (by exact HD.out.grow (Below.trans (by repeat (first | exact Below.refl _ _ | assumption | refine Below.drew ?_ | refine below_drewN ?_ _ | refine Below.alloc ?_ (by (try simp) <;> omega) _ | refine Below.setCell ?_ (by (try simp) <;> omega) _ | refine Below.trans ?_ (Below.mono (by assumption) (by (try simp) <;> omega)))) (Below.mono hgv (by simp <;> omega)))); done)); simp only [Act.put, List.setIfInBounds_toArray, List.set_cons_succ, List.set_cons_zero])
  (apply hav_call (by simp only [List.getElem?_toArray, List.getElem?_cons_succ, List.getElem?_cons_zero]; rfl) (by kernel_rfl); (focus (intro wv; go_simp; try exact ⟨rfl, rfl⟩; done)); (focus (intro wv hgv _; exact less_any ⟨R0, R1⟩ (allS p k who) HRM.out HAM.out _; done)); simp only [Act.put, List.setIfInBounds_toArray, List.set_cons_succ, List.set_cons_zero])
  (apply hav_call (by simp only [List.getElem?_toArray, List.getElem?_cons_succ, List.getElem?_cons_zero]; rfl) (by kernel_rfl); (focus (intro wv; go_simp; try exact ⟨rfl, rfl⟩; done)); (focus (intro wv hgv _; exact common_any (calledS p who k) (lessS ⟨R0, R1⟩ (allS p k who)) _; done)); simp only [Act.put, List.setIfInBounds_toArray, List.set_cons_succ, List.set_cons_zero])
  refine hav_end (fun w1 hgw1 _ => ?_); simp only [List.filterMap]; have hcw1 : ∀ b o, b < _ → w1.cell? ⟨b, o, none⟩ = _ := fun b o hb => Below.cell hgw1 (p := ⟨b, o, none⟩) hb; have hfw1 : ∀ b o, b < _ → w1.frozen? ⟨b, o, none⟩ = _ := fun b o hb => Below.frozen hgw1 (p := ⟨b, o, none⟩) hb; have hzw1 := Below.size hgw1; (try simp at hzw1)
  have HK : Hid (Blk w1 (w.heap.size + 1) 80 #[.int .i64 0, .int .i64 0]) := (Blk.new_ (by simp) _ _).below hgw1 (by simp)
  have r0 : w1.cell? ⟨w.heap.size + 1, 0, none⟩ = some (.int .i64 0) := HK.out.cell 0
  have r1 : w1.cell? ⟨w.heap.size + 1, 1, none⟩ = some (.int .i64 0) := HK.out.cell 1
  have g0 : w1.frozen? ⟨w.heap.size + 1, 0, none⟩ = false := HK.out.frozen 0
  have g1 : w1.frozen? ⟨w.heap.size + 1, 1, none⟩ = false := HK.out.frozen 1
  have HBW : Hid (Below w.heap.size w w1) := Below.trans (((Below.refl w.heap.size w).alloc (by simp) _).alloc (by simp) _) (Below.mono hgw1 (by simp <;> omega))
  clear hgw1
  generalize commonS (calledS p who k) (lessS ⟨R0, R1⟩ (allS p k who)) = C at *
  unfold spV
  go_wp2
  have e0 := ((HK.out.set_ 0 (.int .i64 C.lo)).set_ 1 (.int .i64 C.hi)).cell 0
  have e1 := ((HK.out.set_ 0 (.int .i64 C.lo)).set_ 1 (.int .i64 C.hi)).cell 1
  refine bodyPost_ret (v := spV C) (by simp [results, Tryd.results53, go_sem, e0, e1, spV]) rfl ⟨by rw [HO.out], ?_⟩
  exact (HBW.out.setCell (by simp) _).setCell (by simp) _
end
end Go.Proofs.YtlcolpnniipgbaaDoor
