/- The walk of PayReads: for every pay it answers true. -/
import Derived.Test.YtlcolpnniipgbaaDoorLaw3
import Derived.Test.YtlcolpnniipgbaaDoorRef10
namespace Go.Proofs.YtlcolpnniipgbaaDoor
open Go.RowKit Go.Hav
section
variable {people rate bill : Int} {ra ca da pa : Option Addr} {rl rc cl cc dl dc pl pc : Nat} {p : PayD}
set_option maxRecDepth 100000 in
set_option maxHeartbeats 6400000 in
theorem PayReads_any (who run : Int) (w : World) (hP : PayIn w w.heap.size people ra rl ca cl rate bill da dl pa pl p) (hR : RulesIn w) :
    Calls Tryd.prog 3 #[payV people ra rl rc ca cl cc rate bill da dl dc pa pl pc, .int .i64 who, .int .i64 run] w fun e w' => e = .returned (.bool true) ∧ Below w.heap.size w w' := by
  obtain ⟨⟨A1, E1⟩, H1⟩ : ∃ S : Int × Int, Hid (standsR p who run = S) := ⟨_, rfl⟩
  obtain ⟨⟨⟨L2, U2⟩, E2⟩, H2⟩ : ∃ S : Sp × Int, Hid (spanR (checkE p (whoB p who && runB p run) true) (sheepS p who run) = S) := ⟨_, rfl⟩
  obtain ⟨⟨⟨L3, U3⟩, E3⟩, H3⟩ : ∃ S : Sp × Int, Hid (spanR (checkE p (runB p run) true) (outS p run) = S) := ⟨_, rfl⟩
  obtain ⟨⟨⟨L4, U4⟩, E4⟩, H4⟩ : ∃ S : Sp × Int, Hid (spanR (checkE p (whoB p who) true) (wagesP p who) = S) := ⟨_, rfl⟩
  have HQW : Hid (wagesF (fun r => shornS p who r) rate rl = wagesF (fun r => shornS p who r) p.rate p.runs.length) := by show _ = _; rw [hP.erate, hP.erl]
  have HP := Lib.hid hP
  have HR := Lib.hid hR
  clear hP hR
  unfold payV
  go_enter Tryd.func3, Tryd.ntmps3
  go_wp2_with fail
  obtain ⟨W, hW⟩ : ∃ W, W = w.alloc (.cells (payCs people ra rl rc ca cl cc rate bill da dl dc pa pl pc) 27) := ⟨_, rfl⟩
  have HX0 : Hid (Blk W w.heap.size 27 (payCs people ra rl rc ca cl cc rate bill da dl dc pa pl pc)) := by show Blk _ _ _ _; rw [hW]; exact Blk.new _ _ _
  have HB0 : Hid (Below w.heap.size w W) := by show Below _ _ _; rw [hW]; exact (Below.refl _ _).alloc (Nat.le_refl _) _
  have hW' := hW.symm
  unfold payCs at hW'
  rw [hW']
  clear hW hW'
  have hx0 : w.heap.size < W.heap.size := HX0.out.lt
  obtain ⟨w0, rfl⟩ : ∃ w0, w0 = W := ⟨_, rfl⟩
  refine (heavy_any (p := p) 200 _ (by exact HP.out.grow HB0.out)).mono ?_
  rintro e w1 ⟨⟨b, rfl⟩, hb1⟩
  have HX1 : Hid (Blk w1 w.heap.size 27 (payCs people ra rl rc ca cl cc rate bill da dl dc pa pl pc)) := HX0.out.below hb1 HX0.out.lt
  have HB1 : Hid (Below w.heap.size w w1) := HB0.out.trans (hb1.mono HB0.out.size)
  have hx1 : w.heap.size < w1.heap.size := HX1.out.lt
  have hw1 : w.heap.size ≤ w1.heap.size := HB1.out.size
  clear hb1
  have x10 : w1.cell? ⟨w.heap.size, 0, none⟩ = some (.int .i64 people) := HX1.out.cell 0
  have x11 : w1.cell? ⟨w.heap.size, 1, none⟩ = some (.slice ra rl rc) := HX1.out.cell 1
  have x12 : w1.cell? ⟨w.heap.size, 2, none⟩ = some (.slice ca cl cc) := HX1.out.cell 2
  have x13 : w1.cell? ⟨w.heap.size, 3, none⟩ = some (.int .i64 rate) := HX1.out.cell 3
  have x14 : w1.cell? ⟨w.heap.size, 4, none⟩ = some (.int .i64 bill) := HX1.out.cell 4
  have x15 : w1.cell? ⟨w.heap.size, 5, none⟩ = some (.slice da dl dc) := HX1.out.cell 5
  have x16 : w1.cell? ⟨w.heap.size, 6, none⟩ = some (.slice pa pl pc) := HX1.out.cell 6
  cases b
  case true =>
    go_wp2_with fail
    refine (awake_any _ (by exact HR.out.below HB1.out)).mono ?_
    rintro e w2 ⟨rfl, hb2⟩
    go_wp2
    go_ret
    exact ⟨rfl, HB1.out.trans (hb2.mono HB1.out.size)⟩
  go_wp2_with fail
  refine (PStands_any (p := p) who run _ (by exact HP.out.grow HB1.out)).mono ?_
  rw [H1.out]
  simp only
  rintro e w2 ⟨rfl, hb2⟩
  have HX2 : Hid (Blk w2 w.heap.size 27 (payCs people ra rl rc ca cl cc rate bill da dl dc pa pl pc)) := HX1.out.below hb2 HX1.out.lt
  have HB2 : Hid (Below w.heap.size w w2) := HB1.out.trans (hb2.mono HB1.out.size)
  have hx2 : w.heap.size < w2.heap.size := HX2.out.lt
  have hw2 : w.heap.size ≤ w2.heap.size := HB2.out.size
  clear x10 x11 x12 x13 x14 x15 x16 hx1
  have x20 : w2.cell? ⟨w.heap.size, 0, none⟩ = some (.int .i64 people) := HX2.out.cell 0
  have x21 : w2.cell? ⟨w.heap.size, 1, none⟩ = some (.slice ra rl rc) := HX2.out.cell 1
  have x22 : w2.cell? ⟨w.heap.size, 2, none⟩ = some (.slice ca cl cc) := HX2.out.cell 2
  have x23 : w2.cell? ⟨w.heap.size, 3, none⟩ = some (.int .i64 rate) := HX2.out.cell 3
  have x24 : w2.cell? ⟨w.heap.size, 4, none⟩ = some (.int .i64 bill) := HX2.out.cell 4
  have x25 : w2.cell? ⟨w.heap.size, 5, none⟩ = some (.slice da dl dc) := HX2.out.cell 5
  have x26 : w2.cell? ⟨w.heap.size, 6, none⟩ = some (.slice pa pl pc) := HX2.out.cell 6
  clear hb2
  go_wp2_with fail
  refine (RStands_any (p := p) who run _ (by exact HP.out.grow HB2.out)).mono ?_
  rw [H1.out]
  simp only
  rintro e w3 ⟨rfl, hb3⟩
  have HX3 : Hid (Blk w3 w.heap.size 27 (payCs people ra rl rc ca cl cc rate bill da dl dc pa pl pc)) := HX2.out.below hb3 HX2.out.lt
  have HB3 : Hid (Below w.heap.size w w3) := HB2.out.trans (hb3.mono HB2.out.size)
  have hx3 : w.heap.size < w3.heap.size := HX3.out.lt
  have hw3 : w.heap.size ≤ w3.heap.size := HB3.out.size
  clear x20 x21 x22 x23 x24 x25 x26 hx2
  have x30 : w3.cell? ⟨w.heap.size, 0, none⟩ = some (.int .i64 people) := HX3.out.cell 0
  have x31 : w3.cell? ⟨w.heap.size, 1, none⟩ = some (.slice ra rl rc) := HX3.out.cell 1
  have x32 : w3.cell? ⟨w.heap.size, 2, none⟩ = some (.slice ca cl cc) := HX3.out.cell 2
  have x33 : w3.cell? ⟨w.heap.size, 3, none⟩ = some (.int .i64 rate) := HX3.out.cell 3
  have x34 : w3.cell? ⟨w.heap.size, 4, none⟩ = some (.int .i64 bill) := HX3.out.cell 4
  have x35 : w3.cell? ⟨w.heap.size, 5, none⟩ = some (.slice da dl dc) := HX3.out.cell 5
  have x36 : w3.cell? ⟨w.heap.size, 6, none⟩ = some (.slice pa pl pc) := HX3.out.cell 6
  clear hb3
  go_wp2_with fail
  refine (PSheep_any (p := p) who run _ (by exact HP.out.grow HB3.out)).mono ?_
  rw [H2.out]
  simp only [spV]
  rintro e w4 ⟨rfl, hb4⟩
  have HX4 : Hid (Blk w4 w.heap.size 27 (payCs people ra rl rc ca cl cc rate bill da dl dc pa pl pc)) := HX3.out.below hb4 HX3.out.lt
  have HB4 : Hid (Below w.heap.size w w4) := HB3.out.trans (hb4.mono HB3.out.size)
  have hx4 : w.heap.size < w4.heap.size := HX4.out.lt
  have hw4 : w.heap.size ≤ w4.heap.size := HB4.out.size
  clear x30 x31 x32 x33 x34 x35 x36 hx3
  have x40 : w4.cell? ⟨w.heap.size, 0, none⟩ = some (.int .i64 people) := HX4.out.cell 0
  have x41 : w4.cell? ⟨w.heap.size, 1, none⟩ = some (.slice ra rl rc) := HX4.out.cell 1
  have x42 : w4.cell? ⟨w.heap.size, 2, none⟩ = some (.slice ca cl cc) := HX4.out.cell 2
  have x43 : w4.cell? ⟨w.heap.size, 3, none⟩ = some (.int .i64 rate) := HX4.out.cell 3
  have x44 : w4.cell? ⟨w.heap.size, 4, none⟩ = some (.int .i64 bill) := HX4.out.cell 4
  have x45 : w4.cell? ⟨w.heap.size, 5, none⟩ = some (.slice da dl dc) := HX4.out.cell 5
  have x46 : w4.cell? ⟨w.heap.size, 6, none⟩ = some (.slice pa pl pc) := HX4.out.cell 6
  clear hb4
  go_wp2_with fail
  refine (RSheep_any (p := p) who run _ (by exact HP.out.grow (HB4.out.alloc (by omega) _))).mono ?_
  rw [span_sheep, H2.out]
  simp only [spV]
  rintro e w5 ⟨rfl, hb5⟩
  have HX5 : Hid (Blk w5 w.heap.size 27 (payCs people ra rl rc ca cl cc rate bill da dl dc pa pl pc)) := (HX4.out.alloc _).below hb5 (HX4.out.alloc _).lt
  have HSa_5 : Hid (Blk w5 w4.heap.size 34 #[.int .i64 L2, .int .i64 U2]) := (Blk.new_ rfl _ _).below hb5 (by simp)
  have HB5 : Hid (Below w.heap.size w w5) := (HB4.out.alloc (by omega) _).trans (hb5.mono (HB4.out.alloc (by omega) _).size)
  have hx5 : w.heap.size < w5.heap.size := HX5.out.lt
  have hw5 : w.heap.size ≤ w5.heap.size := HB5.out.size
  clear x40 x41 x42 x43 x44 x45 x46 hx4
  have x50 : w5.cell? ⟨w.heap.size, 0, none⟩ = some (.int .i64 people) := HX5.out.cell 0
  have x51 : w5.cell? ⟨w.heap.size, 1, none⟩ = some (.slice ra rl rc) := HX5.out.cell 1
  have x52 : w5.cell? ⟨w.heap.size, 2, none⟩ = some (.slice ca cl cc) := HX5.out.cell 2
  have x53 : w5.cell? ⟨w.heap.size, 3, none⟩ = some (.int .i64 rate) := HX5.out.cell 3
  have x54 : w5.cell? ⟨w.heap.size, 4, none⟩ = some (.int .i64 bill) := HX5.out.cell 4
  have x55 : w5.cell? ⟨w.heap.size, 5, none⟩ = some (.slice da dl dc) := HX5.out.cell 5
  have x56 : w5.cell? ⟨w.heap.size, 6, none⟩ = some (.slice pa pl pc) := HX5.out.cell 6
  clear hb5
  go_wp2_with fail
  refine (POut_any (p := p) run _ (by exact HP.out.grow (HB5.out.alloc (by omega) _))).mono ?_
  rw [H3.out]
  simp only [spV]
  rintro e w6 ⟨rfl, hb6⟩
  have HX6 : Hid (Blk w6 w.heap.size 27 (payCs people ra rl rc ca cl cc rate bill da dl dc pa pl pc)) := (HX5.out.alloc _).below hb6 (HX5.out.alloc _).lt
  have HSa_6 := Lib.hid ((HSa_5.out.alloc _).below hb6 (HSa_5.out.alloc _).lt)
  have HSb_6 : Hid (Blk w6 w5.heap.size 34 #[.int .i64 L2, .int .i64 U2]) := (Blk.new_ rfl _ _).below hb6 (by simp)
  have HB6 : Hid (Below w.heap.size w w6) := (HB5.out.alloc (by omega) _).trans (hb6.mono (HB5.out.alloc (by omega) _).size)
  have hx6 : w.heap.size < w6.heap.size := HX6.out.lt
  have hw6 : w.heap.size ≤ w6.heap.size := HB6.out.size
  clear x50 x51 x52 x53 x54 x55 x56 hx5
  have x60 : w6.cell? ⟨w.heap.size, 0, none⟩ = some (.int .i64 people) := HX6.out.cell 0
  have x61 : w6.cell? ⟨w.heap.size, 1, none⟩ = some (.slice ra rl rc) := HX6.out.cell 1
  have x62 : w6.cell? ⟨w.heap.size, 2, none⟩ = some (.slice ca cl cc) := HX6.out.cell 2
  have x63 : w6.cell? ⟨w.heap.size, 3, none⟩ = some (.int .i64 rate) := HX6.out.cell 3
  have x64 : w6.cell? ⟨w.heap.size, 4, none⟩ = some (.int .i64 bill) := HX6.out.cell 4
  have x65 : w6.cell? ⟨w.heap.size, 5, none⟩ = some (.slice da dl dc) := HX6.out.cell 5
  have x66 : w6.cell? ⟨w.heap.size, 6, none⟩ = some (.slice pa pl pc) := HX6.out.cell 6
  clear hb6
  go_wp2_with fail
  refine (ROut_any (p := p) run _ (by exact HP.out.grow (HB6.out.alloc (by omega) _))).mono ?_
  rw [span_out, H3.out]
  simp only [spV]
  rintro e w7 ⟨rfl, hb7⟩
  have HX7 : Hid (Blk w7 w.heap.size 27 (payCs people ra rl rc ca cl cc rate bill da dl dc pa pl pc)) := (HX6.out.alloc _).below hb7 (HX6.out.alloc _).lt
  have HSa_7 := Lib.hid ((HSa_6.out.alloc _).below hb7 (HSa_6.out.alloc _).lt)
  have HSb_7 := Lib.hid ((HSb_6.out.alloc _).below hb7 (HSb_6.out.alloc _).lt)
  have HSc_7 : Hid (Blk w7 w6.heap.size 34 #[.int .i64 L3, .int .i64 U3]) := (Blk.new_ rfl _ _).below hb7 (by simp)
  have HB7 : Hid (Below w.heap.size w w7) := (HB6.out.alloc (by omega) _).trans (hb7.mono (HB6.out.alloc (by omega) _).size)
  have hx7 : w.heap.size < w7.heap.size := HX7.out.lt
  have hw7 : w.heap.size ≤ w7.heap.size := HB7.out.size
  clear x60 x61 x62 x63 x64 x65 x66 hx6
  have x70 : w7.cell? ⟨w.heap.size, 0, none⟩ = some (.int .i64 people) := HX7.out.cell 0
  have x71 : w7.cell? ⟨w.heap.size, 1, none⟩ = some (.slice ra rl rc) := HX7.out.cell 1
  have x72 : w7.cell? ⟨w.heap.size, 2, none⟩ = some (.slice ca cl cc) := HX7.out.cell 2
  have x73 : w7.cell? ⟨w.heap.size, 3, none⟩ = some (.int .i64 rate) := HX7.out.cell 3
  have x74 : w7.cell? ⟨w.heap.size, 4, none⟩ = some (.int .i64 bill) := HX7.out.cell 4
  have x75 : w7.cell? ⟨w.heap.size, 5, none⟩ = some (.slice da dl dc) := HX7.out.cell 5
  have x76 : w7.cell? ⟨w.heap.size, 6, none⟩ = some (.slice pa pl pc) := HX7.out.cell 6
  clear hb7
  go_wp2_with fail
  refine (PWages_any (p := p) who _ (by exact HP.out.grow (HB7.out.alloc (by omega) _))).mono ?_
  rw [H4.out]
  simp only [spV]
  rintro e w8 ⟨rfl, hb8⟩
  have HX8 : Hid (Blk w8 w.heap.size 27 (payCs people ra rl rc ca cl cc rate bill da dl dc pa pl pc)) := (HX7.out.alloc _).below hb8 (HX7.out.alloc _).lt
  have HSa_8 := Lib.hid ((HSa_7.out.alloc _).below hb8 (HSa_7.out.alloc _).lt)
  have HSb_8 := Lib.hid ((HSb_7.out.alloc _).below hb8 (HSb_7.out.alloc _).lt)
  have HSc_8 := Lib.hid ((HSc_7.out.alloc _).below hb8 (HSc_7.out.alloc _).lt)
  have HSd_8 : Hid (Blk w8 w7.heap.size 34 #[.int .i64 L3, .int .i64 U3]) := (Blk.new_ rfl _ _).below hb8 (by simp)
  have HB8 : Hid (Below w.heap.size w w8) := (HB7.out.alloc (by omega) _).trans (hb8.mono (HB7.out.alloc (by omega) _).size)
  have hx8 : w.heap.size < w8.heap.size := HX8.out.lt
  have hw8 : w.heap.size ≤ w8.heap.size := HB8.out.size
  clear x70 x71 x72 x73 x74 x75 x76 hx7
  have x80 : w8.cell? ⟨w.heap.size, 0, none⟩ = some (.int .i64 people) := HX8.out.cell 0
  have x81 : w8.cell? ⟨w.heap.size, 1, none⟩ = some (.slice ra rl rc) := HX8.out.cell 1
  have x82 : w8.cell? ⟨w.heap.size, 2, none⟩ = some (.slice ca cl cc) := HX8.out.cell 2
  have x83 : w8.cell? ⟨w.heap.size, 3, none⟩ = some (.int .i64 rate) := HX8.out.cell 3
  have x84 : w8.cell? ⟨w.heap.size, 4, none⟩ = some (.int .i64 bill) := HX8.out.cell 4
  have x85 : w8.cell? ⟨w.heap.size, 5, none⟩ = some (.slice da dl dc) := HX8.out.cell 5
  have x86 : w8.cell? ⟨w.heap.size, 6, none⟩ = some (.slice pa pl pc) := HX8.out.cell 6
  clear hb8
  go_wp2_with fail
  refine (RWages_any (p := p) who _ (by exact HP.out.grow (HB8.out.alloc (by omega) _))).mono ?_
  rw [HQW.out, span_wages, H4.out]
  simp only [spV]
  rintro e w9 ⟨rfl, hb9⟩
  have HX9 : Hid (Blk w9 w.heap.size 27 (payCs people ra rl rc ca cl cc rate bill da dl dc pa pl pc)) := (HX8.out.alloc _).below hb9 (HX8.out.alloc _).lt
  have HSa_9 := Lib.hid ((HSa_8.out.alloc _).below hb9 (HSa_8.out.alloc _).lt)
  have HSb_9 := Lib.hid ((HSb_8.out.alloc _).below hb9 (HSb_8.out.alloc _).lt)
  have HSc_9 := Lib.hid ((HSc_8.out.alloc _).below hb9 (HSc_8.out.alloc _).lt)
  have HSd_9 := Lib.hid ((HSd_8.out.alloc _).below hb9 (HSd_8.out.alloc _).lt)
  have HSe_9 : Hid (Blk w9 w8.heap.size 34 #[.int .i64 L4, .int .i64 U4]) := (Blk.new_ rfl _ _).below hb9 (by simp)
  have HB9 : Hid (Below w.heap.size w w9) := (HB8.out.alloc (by omega) _).trans (hb9.mono (HB8.out.alloc (by omega) _).size)
  have hx9 : w.heap.size < w9.heap.size := HX9.out.lt
  have hw9 : w.heap.size ≤ w9.heap.size := HB9.out.size
  clear x80 x81 x82 x83 x84 x85 x86 hx8
  have x90 : w9.cell? ⟨w.heap.size, 0, none⟩ = some (.int .i64 people) := HX9.out.cell 0
  have x91 : w9.cell? ⟨w.heap.size, 1, none⟩ = some (.slice ra rl rc) := HX9.out.cell 1
  have x92 : w9.cell? ⟨w.heap.size, 2, none⟩ = some (.slice ca cl cc) := HX9.out.cell 2
  have x93 : w9.cell? ⟨w.heap.size, 3, none⟩ = some (.int .i64 rate) := HX9.out.cell 3
  have x94 : w9.cell? ⟨w.heap.size, 4, none⟩ = some (.int .i64 bill) := HX9.out.cell 4
  have x95 : w9.cell? ⟨w.heap.size, 5, none⟩ = some (.slice da dl dc) := HX9.out.cell 5
  have x96 : w9.cell? ⟨w.heap.size, 6, none⟩ = some (.slice pa pl pc) := HX9.out.cell 6
  clear hb9
  have sa0 : w9.cell? ⟨w4.heap.size, 0, none⟩ = some (.int .i64 L2) := HSa_9.out.cell 0
  have sa1 : w9.cell? ⟨w4.heap.size, 1, none⟩ = some (.int .i64 U2) := HSa_9.out.cell 1
  have ta : w4.heap.size < w9.heap.size := HSa_9.out.lt
  have sb0 : w9.cell? ⟨w5.heap.size, 0, none⟩ = some (.int .i64 L2) := HSb_9.out.cell 0
  have sb1 : w9.cell? ⟨w5.heap.size, 1, none⟩ = some (.int .i64 U2) := HSb_9.out.cell 1
  have tb : w5.heap.size < w9.heap.size := HSb_9.out.lt
  have sc0 : w9.cell? ⟨w6.heap.size, 0, none⟩ = some (.int .i64 L3) := HSc_9.out.cell 0
  have sc1 : w9.cell? ⟨w6.heap.size, 1, none⟩ = some (.int .i64 U3) := HSc_9.out.cell 1
  have tc : w6.heap.size < w9.heap.size := HSc_9.out.lt
  have sd0 : w9.cell? ⟨w7.heap.size, 0, none⟩ = some (.int .i64 L3) := HSd_9.out.cell 0
  have sd1 : w9.cell? ⟨w7.heap.size, 1, none⟩ = some (.int .i64 U3) := HSd_9.out.cell 1
  have td : w7.heap.size < w9.heap.size := HSd_9.out.lt
  have se0 : w9.cell? ⟨w8.heap.size, 0, none⟩ = some (.int .i64 L4) := HSe_9.out.cell 0
  have se1 : w9.cell? ⟨w8.heap.size, 1, none⟩ = some (.int .i64 U4) := HSe_9.out.cell 1
  have te : w8.heap.size < w9.heap.size := HSe_9.out.lt
  go_wp2_with fail
  refine (awake_any _ (by exact HR.out.below (HB9.out.alloc (by omega) _))).mono ?_
  rintro e wz ⟨rfl, hbz⟩
  have HBZ : Hid (Below w.heap.size w wz) := (HB9.out.alloc (by omega) _).trans (hbz.mono (HB9.out.alloc (by omega) _).size)
  clear hbz
  go_wp2
  go_ret
  exact ⟨rfl, HBZ.out⟩
end
end Go.Proofs.YtlcolpnniipgbaaDoor
