/- Machine side of laws FnCausal: written for this claim by the kit's print program under this session's wip/tools/mp_setup.py (with contracts of the session's own, wip/ext). -/
import Derived.Test.YtnohdgbfgdnpfaaPFnCausalx0
import Derived.Test.YtnohdgbfgdnpfaaPFnCausalx1
namespace Go.Proofs.Ytnohdgbfgdnpfaa.PFnCausal
open Go.RowKit Go.Proofs.YtnohdgbfgdnpfaaW.PrintWords Go.Proofs.YtnohdgbfgdnpfaaW.PrintLast Go.Proofs.YtnohdgbfgdnpfaaW.PrintMore
attribute [local go_sem] max2_int min2_int max_two min_two max_three min_three max_four min_four   -- for this text's walks alone
set_option linter.unusedVariables false
set_option linter.unusedSimpArgs false
-- squeezed: words under short names
set_option linter.defProp false in
def z0c := @Aside0.mk
set_option linter.defProp false in
def z1c := @blk_drewN
set_option linter.defProp false in
def z2c := @blk_alloc
set_option linter.defProp false in
def z3c := @blk_drew
set_option linter.defProp false in
def z4c := @below_alloc
set_option linter.defProp false in
def z5c := @pw_below_drewN
set_option linter.defProp false in
def z6c := @below_drew1
set_option linter.defProp false in
def z7c := @below_set
set_option linter.defProp false in
def z8c := @Kd.R_alloc
set_option linter.defProp false in
def z9c := @Kd.R_drewN
set_option linter.defProp false in
def y1c := @Kd.R_drew
set_option linter.defProp false in
def x2c := @blk_frozen
set_option linter.defProp false in
def x3c := @blk_cell
set_option linter.defProp false in
def x8c := @blk_far
def bsc_ (n m : Nat) : Array Bool := ((List.range n).map fun i => m.testBit i).toArray
theorem s1c_ {α : Type} (l : List α) (i : Nat) (a : α) : l.toArray.setIfInBounds i a = (l.set i a).toArray := List.setIfInBounds_toArray l i a
theorem s2c_ {α : Type} (a b : α) (l : List α) : (a :: l).set 0 b = b :: l := rfl
theorem s3c_ {α : Type} (a b : α) (n : Nat) (l : List α) : (a :: l).set (n + 1) b = a :: l.set n b := rfl

def spec_l1Draw.l0 : Nat → Int → Int → Int → List Int → Int → Int → Int → Int → List Int → Option (Int × Int × List Int × Int × Int)
 | 0, _, _, _, _, _, _, _, _, _ => none
 | k + 1, x6, x21, x22, x1000, x1001, x1002, x141000, x141001, x141002 => if x22 < x21 then (if x6 = 0 then ((spec_l01Below.f x1000 x1001 x1002 256).bind fun bt144 => (if 0 ≤ x22 then (if x22 < (x141002.length : Int) then (spec_l1Draw.l0 k x6 x21 (wrap64 (x22 + 1)) x1000 bt144.2.1 bt144.2.2 x141000 x141001 (x141002.set (x22 : Int).toNat bt144.1)) else (none)) else (none))) else (if x6 = 1 then ((spec_l01Int.f x1000 x1001 x1002 (([0, 255, 128, 127, 1, 254] : List Int))).bind fun bt151 => (if 0 ≤ x22 then (if x22 < (x141002.length : Int) then (spec_l1Draw.l0 k x6 x21 (wrap64 (x22 + 1)) x1000 bt151.2.1 bt151.2.2 x141000 x141001 (x141002.set (x22 : Int).toNat bt151.1)) else (none)) else (none))) else (if x6 = 2 then ((spec_l01Below.f x1000 x1001 x1002 2).bind fun bt155 => (if 0 ≤ x22 then (if x22 < (x141002.length : Int) then (spec_l1Draw.l0 k x6 x21 (wrap64 (x22 + 1)) x1000 bt155.2.1 bt155.2.2 x141000 x141001 (x141002.set (x22 : Int).toNat bt155.1)) else (none)) else (none))) else (if x141000 = 0 then (none) else (if (mx 1 (wrap64 (x141000 - 1))) = 0 then (none) else (if 0 ≤ x22 then (if x22 < (x141002.length : Int) then (spec_l1Draw.l0 k x6 x21 (wrap64 (x22 + 1)) x1000 x1001 x1002 x141000 x141001 (x141002.set (x22 : Int).toNat (wrap64 (Int.tdiv (wrap64 ((Int.tmod x22 x141000) * 255)) (mx 1 (wrap64 (x141000 - 1))))))) else (none)) else (none))))))) else (some (x141000, x141001, x141002, x1001, x1002))
def spec_l1Draw.f (k : Nat) (s0_0 : List Int) (s0_1 : Int) (s0_2 : Int) (a1 : Int) : Option (Int × Int × List Int × Int × Int) := (spec_l01Below.f s0_0 s0_1 s0_2 a1).bind fun bt129 => ((spec_l01Below.f s0_0 bt129.2.1 bt129.2.2 a1).bind fun bt132 => ((spec_l1Empty.f (wrap64 (1 + bt129.1)) (wrap64 (1 + bt132.1))).bind fun bt135 => ((spec_l01Below.f s0_0 bt132.2.1 bt132.2.2 4).bind fun bt141 => (spec_l1Draw.l0 k bt141.1 (bt135.2.2.length : Int) 0 s0_0 bt141.2.1 bt141.2.2 bt135.1 bt135.2.1 bt135.2.2))))
def spec_l1Draw.T7 : Bool × List (List Nat × List Nat) := (true, [([], []), ([0], [0]), ([], []), ([], []), ([], []), ([4], [4]), ([3, 5], [3, 5]), ([6], [6]), ([], []), ([8], [8]), ([9], [9]), ([10], [10]), ([7, 11], [7, 11]), ([1, 2, 0, 1, 2, 3, 4, 5, 6, 7, 8, 9, 10, 11, 12], [1, 2]), ([13, 12, 0, 1, 2, 3, 4, 5, 6, 7, 8, 9, 10, 11, 12], [12, 13])])
def spec_l1Draw.B7 : List Nat := [0, 1, 0, 0, 0, 16, 56, 120, 0, 256, 768, 1792, 4088, 8191, 16383]
theorem spec_l1Draw.tab7 : rtab .any (opsOf Try.f41 7) = spec_l1Draw.T7 := by kernel_rfl
theorem spec_l1Draw.bits7 : waitsOk spec_l1Draw.T7.2 spec_l1Draw.B7 = true := by kernel_rfl
def spec_l1Draw.T11 : Bool × List (List Nat × List Nat) := (true, [([], []), ([0], [0]), ([], []), ([], []), ([], []), ([3, 4], [3, 4]), ([1, 2, 0, 1, 2, 3, 4, 5], [1, 2]), ([6, 5, 5, 0, 1, 2, 3, 4, 5], [5, 6])])
def spec_l1Draw.B11 : List Nat := [0, 1, 0, 0, 0, 24, 63, 127]
theorem spec_l1Draw.tab11 : rtab .any (opsOf Try.f41 11) = spec_l1Draw.T11 := by kernel_rfl
theorem spec_l1Draw.bits11 : waitsOk spec_l1Draw.T11.2 spec_l1Draw.B11 = true := by kernel_rfl
set_option maxHeartbeats 8000000 in
set_option maxRecDepth 100000 in
theorem spec_l1Draw.calls (k : Nat) (g : Nat) (s0_0 : List Int) (s0_1 : Int) (s0_2 : Int) (a1 : Int) (r1 : Int) (r2 : Int) (r3 : List Int) (r4 : Int) (r5 : Int) (w0 w : World) (hI : IsS78 w0 w g s0_0 s0_1 s0_2) (hB : Below w0.heap.size w0 w) (h : spec_l1Draw.f k s0_0 s0_1 s0_2 a1 = some (r1, r2, r3, r4, r5)) :
  Calls Try.prog 41 #[.pointer (some ⟨g, 0, none⟩), .int .i64 a1] w fun e w' => ∃ v2_ : Value, e = .returned (.agg #[.int .i64 r1, .int .i64 r2, v2_]) ∧ Kd.R (Kd.int .i64) 3 w' w.heap.size (fun _ => True) v2_ r3 ∧ IsS78 w0 w' g s0_0 r4 r5 ∧ Below w0.heap.size w0 w' ∧ KeepBut w w' g none := by
 have hu31 := Try.underlying31
 have HI0 := z0c hI
 have HK := z0c (KeepBut.refl w g none)
 have HL := z0c hB.size
 clear hI
 have HW0 := z0c hB.size
 have HB := z0c hB
 clear hB
 have H : ((spec_l01Below.f s0_0 s0_1 s0_2 a1).bind fun bt129 => ((spec_l01Below.f s0_0 bt129.2.1 bt129.2.2 a1).bind fun bt132 => ((spec_l1Empty.f (wrap64 (1 + bt129.1)) (wrap64 (1 + bt132.1))).bind fun bt135 => ((spec_l01Below.f s0_0 bt132.2.1 bt132.2.2 4).bind fun bt141 => (spec_l1Draw.l0 k bt141.1 (bt135.2.2.length : Int) 0 s0_0 bt141.2.1 bt141.2.2 bt135.1 bt135.2.1 bt135.2.2))))) = some (r1, r2, r3, r4, r5) := h
 clear h
 replace H := Option.bind_eq_some_iff.mp H
 obtain ⟨⟨t129, t130, t131⟩, A30, H⟩ := H
 replace H : ((spec_l01Below.f s0_0 t130 t131 a1).bind fun bt132 => ((spec_l1Empty.f (wrap64 (1 + t129)) (wrap64 (1 + bt132.1))).bind fun bt135 => ((spec_l01Below.f s0_0 bt132.2.1 bt132.2.2 4).bind fun bt141 => (spec_l1Draw.l0 k bt141.1 (bt135.2.2.length : Int) 0 s0_0 bt141.2.1 bt141.2.2 bt135.1 bt135.2.1 bt135.2.2)))) = some (r1, r2, r3, r4, r5) := H
 have A3 := z0c A30
 clear A30
 replace H := Option.bind_eq_some_iff.mp H
 obtain ⟨⟨t132, t133, t134⟩, A40, H⟩ := H
 replace H : ((spec_l1Empty.f (wrap64 (1 + t129)) (wrap64 (1 + t132))).bind fun bt135 => ((spec_l01Below.f s0_0 t133 t134 4).bind fun bt141 => (spec_l1Draw.l0 k bt141.1 (bt135.2.2.length : Int) 0 s0_0 bt141.2.1 bt141.2.2 bt135.1 bt135.2.1 bt135.2.2))) = some (r1, r2, r3, r4, r5) := H
 have A4 := z0c A40
 clear A40
 replace H := Option.bind_eq_some_iff.mp H
 obtain ⟨⟨t135, t136, t137⟩, A50, H⟩ := H
 replace H : ((spec_l01Below.f s0_0 t133 t134 4).bind fun bt141 => (spec_l1Draw.l0 k bt141.1 (t137.length : Int) 0 s0_0 bt141.2.1 bt141.2.2 t135 t136 t137)) = some (r1, r2, r3, r4, r5) := H
 have A5 := z0c A50
 clear A50
 replace H := Option.bind_eq_some_iff.mp H
 obtain ⟨⟨t141, t142, t143⟩, A60, H⟩ := H
 replace H : (spec_l1Draw.l0 k t141 (t137.length : Int) 0 s0_0 t142 t143 t135 t136 t137) = some (r1, r2, r3, r4, r5) := H
 have A6 := z0c A60
 clear A60
 have H' := z0c H
 clear H
 go_enter Try.func41, Try.ntmps41
 go_wp2_with (first|((with_reducible refine gate_dst (N := 4) rfl ?_);refine box_event ?hg (N := 4) ?hd (cs := #[.int .i64 0, .int .i64 0, .slice none 0 0]) (t := 31) ?hr ?_;(case hd => rfl);(case hg => rfl);(case hr => first|(go_simp;done)|(go_simp;rfl));intro gb128 hg w7 hbox hb;have n0_ := z0c (IsS78.below (by repeat (first|(with_reducible first|exact HI0.out|apply IsS78.alloc|apply IsS78.drewN|apply IsS78.drew|apply IsS78.set_1|apply IsS78.set_2)|exact HI0.out)) hb);have n1_ := z0c (KeepBut.trans (by repeat (first|(with_reducible first|exact HK.out|apply KeepBut.set_|apply keep_drewN|apply keep_drew|apply keep_alloc)|exact HK.out)) (KeepBut.of_below hb g none) (.inl rfl));have n2_ := z0c (below_step (by repeat (first|(with_reducible first|exact HB.out|apply z4c|apply z5c|apply z6c|refine z7c ?_ (IsS78.ge HI0.out))|exact HB.out)) hb);have n3_ := z0c (hbox);have n4_ := z0c ((by rw [hg];exact (keep_size (w := w) (g := g) (row := none) (by repeat (first|(with_reducible first|exact HK.out|apply KeepBut.set_|apply keep_drewN|apply keep_drew|apply keep_alloc)|exact HK.out))) : w.heap.size ≤ gb128));have n5_ := z0c ((Nat.le_trans HW0.out (by rw [hg];exact (keep_size (w := w) (g := g) (row := none) (by repeat (first|(with_reducible first|exact HK.out|apply KeepBut.set_|apply keep_drewN|apply keep_drew|apply keep_alloc)|exact HK.out))) : w.heap.size ≤ gb128) : w0.heap.size ≤ gb128));have n6_ := z0c ((by rw [hg];exact Nat.ne_of_lt (IsS78.lt (show IsS78 w0 _ g s0_0 s0_1 s0_2 from by repeat (first|(with_reducible first|exact HI0.out|apply IsS78.alloc|apply IsS78.drewN|apply IsS78.drew|apply IsS78.set_1|apply IsS78.set_2)|exact HI0.out))) : g ≠ gb128));have n7_ := z0c ((by rw [hg];exact Nat.ne_of_gt (IsS78.lt (show IsS78 w0 _ g s0_0 s0_1 s0_2 from by repeat (first|(with_reducible first|exact HI0.out|apply IsS78.alloc|apply IsS78.drewN|apply IsS78.drew|apply IsS78.set_1|apply IsS78.set_2)|exact HI0.out))) : gb128 ≠ g));clear HI0;clear HK;clear HB;have HI0 := n0_;have HK := n1_;have HB := n2_;have BK128 := n3_;have GW128 := n4_;have GE128 := n5_;have NB0_128 := n6_;have NB128_0 := n7_;clear n0_ n1_ n2_ n3_ n4_ n5_ n6_ n7_;clear hb hbox hg)|((with_reducible refine gate_callee (f := 38) rfl ?_);refine goesL_ (some 10) rfl rfl Try.func38 (by kernel_rfl) rfl #[.pointer (some ⟨g, 0, none⟩), .int .i64 a1] rfl (by (try simp only [List.map_toArray, List.map_cons, List.map_nil]);first | done |rfl|(simp only [List.length_drop, List.length_take];rfl)) ?_;(with_reducible refine (spec_l01Below.calls g s0_0 s0_1 s0_2 a1 t129 t130 t131 w0 _ ?side1 ?side2 A3.out).mono ?_);(case side1 => repeat (first|(with_reducible first|exact HI0.out|apply IsS78.alloc|apply IsS78.drewN|apply IsS78.drew|apply IsS78.set_1|apply IsS78.set_2|refine IsS78.far ?_ NB0_128.out _)|exact HI0.out));(case side2 => repeat (first|(with_reducible first|exact HB.out|apply z4c|apply z5c|apply z6c|refine z7c ?_ (IsS78.ge HI0.out)|refine z7c ?_ GE128.out)|exact HB.out));rintro e w8 ⟨rfl, hi, hb, hk⟩;refine ⟨_, rfl, ?_⟩;have n0_ := z0c (KeepBut.blk hk (g' := gb128) (o := .cells #[.int .i64 0, .int .i64 0, .slice none 0 0] 31 (0, 0)) (by (with_reducible repeat (first|refine z1c ?_ _|refine z3c ?_|refine z2c ?_ _));exact BK128.out) NB128_0.out (by simp));have n1_ := z0c (KeepBut.trans (by repeat (first|(with_reducible first|exact HK.out|apply KeepBut.set_|apply keep_drewN|apply keep_drew|apply keep_alloc|refine keep_far ?_ GW128.out _)|exact HK.out)) hk (.inl rfl));have n2_ := z0c (hb);have n3_ := z0c (hi);clear BK128;clear HK;clear HB;clear HI0;have BK128 := n0_;have HK := n1_;have HB := n2_;have HI0 := n3_;clear n0_ n1_ n2_ n3_;(try clear hb);(try clear hk);(try clear hi))|((with_reducible refine gate_callee (f := 38) rfl ?_);refine goesL_ (some 14) rfl rfl Try.func38 (by kernel_rfl) rfl #[.pointer (some ⟨g, 0, none⟩), .int .i64 a1] rfl (by (try simp only [List.map_toArray, List.map_cons, List.map_nil]);first | done |rfl|(simp only [List.length_drop, List.length_take];rfl)) ?_;(with_reducible refine (spec_l01Below.calls g s0_0 t130 t131 a1 t132 t133 t134 w0 _ ?side1 ?side2 A4.out).mono ?_);(case side1 => repeat (first|(with_reducible first|exact HI0.out|apply IsS78.alloc|apply IsS78.drewN|apply IsS78.drew|apply IsS78.set_1|apply IsS78.set_2|refine IsS78.far ?_ NB0_128.out _)|exact HI0.out));(case side2 => repeat (first|(with_reducible first|exact HB.out|apply z4c|apply z5c|apply z6c|refine z7c ?_ (IsS78.ge HI0.out)|refine z7c ?_ GE128.out)|exact HB.out));rintro e w9 ⟨rfl, hi, hb, hk⟩;refine ⟨_, rfl, ?_⟩;have n0_ := z0c (KeepBut.blk hk (g' := gb128) (o := .cells #[.int .i64 0, .int .i64 0, .slice none 0 0] 31 (0, 0)) (by (with_reducible repeat (first|refine z1c ?_ _|refine z3c ?_|refine z2c ?_ _));exact BK128.out) NB128_0.out (by simp));have n1_ := z0c (KeepBut.trans (by repeat (first|(with_reducible first|exact HK.out|apply KeepBut.set_|apply keep_drewN|apply keep_drew|apply keep_alloc|refine keep_far ?_ GW128.out _)|exact HK.out)) hk (.inl rfl));have n2_ := z0c (hb);have n3_ := z0c (hi);clear BK128;clear HK;clear HB;clear HI0;have BK128 := n0_;have HK := n1_;have HB := n2_;have HI0 := n3_;clear n0_ n1_ n2_ n3_;(try clear hb);(try clear hk);(try clear hi))|((with_reducible refine gate_callee (f := 45) rfl ?_);refine goesL_ (some 16) rfl rfl Try.func45 (by kernel_rfl) rfl #[.int .i64 (wrap64 (1 + t129)), .int .i64 (wrap64 (1 + t132))] rfl (by (try simp only [List.map_toArray, List.map_cons, List.map_nil]);first | done |rfl|(simp only [List.length_drop, List.length_take];rfl)) ?_;(with_reducible refine (spec_l1Empty.calls (wrap64 (1 + t129)) (wrap64 (1 + t132)) t135 t136 t137 _ A5.out).mono ?_);rintro e w10 ⟨v138, rfl, ho0, hb⟩;refine ⟨_, rfl, ?_⟩;have n0_ := z0c (Kd.R_lower ho0 (keep_size (w := w) (g := g) (row := none) (by repeat (first|(with_reducible first|exact HK.out|apply KeepBut.set_|apply keep_drewN|apply keep_drew|apply keep_alloc|refine keep_far ?_ GW128.out _)|exact HK.out))));have n1_ := z0c (IsS78.below (by repeat (first|(with_reducible first|exact HI0.out|apply IsS78.alloc|apply IsS78.drewN|apply IsS78.drew|apply IsS78.set_1|apply IsS78.set_2|refine IsS78.far ?_ NB0_128.out _)|exact HI0.out)) hb);have n2_ := z0c (blk_below (g := gb128) (o := .cells #[.int .i64 0, .int .i64 0, .slice none 0 0] 31 (0, 0)) (by (with_reducible repeat (first|refine z1c ?_ _|refine z3c ?_|refine z2c ?_ _));exact BK128.out) hb);have n3_ := z0c (KeepBut.trans (by repeat (first|(with_reducible first|exact HK.out|apply KeepBut.set_|apply keep_drewN|apply keep_drew|apply keep_alloc|refine keep_far ?_ GW128.out _)|exact HK.out)) (KeepBut.of_below hb g none) (.inl rfl));have n4_ := z0c (below_step (by repeat (first|(with_reducible first|exact HB.out|apply z4c|apply z5c|apply z6c|refine z7c ?_ (IsS78.ge HI0.out)|refine z7c ?_ GE128.out)|exact HB.out)) hb);clear HI0;clear BK128;clear HK;clear HB;have HO139 := n0_;have HI0 := n1_;have BK128 := n2_;have HK := n3_;have HB := n4_;clear n0_ n1_ n2_ n3_ n4_;(try clear hb);(try clear hk);(try clear hi);(try clear ho0))|((with_reducible refine gate_dst (N := 5) rfl ?_);refine box_event ?hg (N := 5) ?hd (cs := #[.int .i64 0, .int .i64 0, .slice none 0 0]) (t := 31) ?hr ?_;(case hd => rfl);(case hg => rfl);(case hr => first|(go_simp;done)|(go_simp;rfl));intro gb140 hg w11 hbox hb;have n0_ := z0c (Kd.R_below (by (with_reducible repeat (first|apply z8c|apply z9c|apply y1c));exact HO139.out) hb);have n1_ := z0c (IsS78.below (by repeat (first|(with_reducible first|exact HI0.out|apply IsS78.alloc|apply IsS78.drewN|apply IsS78.drew|apply IsS78.set_1|apply IsS78.set_2|refine IsS78.far ?_ NB0_128.out _)|exact HI0.out)) hb);have n2_ := z0c (blk_below (g := gb128) (o := .cells #[.int .i64 0, .int .i64 0, .slice none 0 0] 31 (0, 0)) (by (with_reducible repeat (first|refine z1c ?_ _|refine z3c ?_|refine z2c ?_ _));exact BK128.out) hb);have n3_ := z0c (KeepBut.trans (by repeat (first|(with_reducible first|exact HK.out|apply KeepBut.set_|apply keep_drewN|apply keep_drew|apply keep_alloc|refine keep_far ?_ GW128.out _)|exact HK.out)) (KeepBut.of_below hb g none) (.inl rfl));have n4_ := z0c (below_step (by repeat (first|(with_reducible first|exact HB.out|apply z4c|apply z5c|apply z6c|refine z7c ?_ (IsS78.ge HI0.out)|refine z7c ?_ GE128.out)|exact HB.out)) hb);have n5_ := z0c (hbox);have n6_ := z0c ((by rw [hg];exact (keep_size (w := w) (g := g) (row := none) (by repeat (first|(with_reducible first|exact HK.out|apply KeepBut.set_|apply keep_drewN|apply keep_drew|apply keep_alloc|refine keep_far ?_ GW128.out _)|exact HK.out))) : w.heap.size ≤ gb140));have n7_ := z0c ((Nat.le_trans HW0.out (by rw [hg];exact (keep_size (w := w) (g := g) (row := none) (by repeat (first|(with_reducible first|exact HK.out|apply KeepBut.set_|apply keep_drewN|apply keep_drew|apply keep_alloc|refine keep_far ?_ GW128.out _)|exact HK.out))) : w.heap.size ≤ gb140) : w0.heap.size ≤ gb140));have n8_ := z0c ((by rw [hg];exact Nat.ne_of_lt (blk_lt (g := gb128) (o := .cells #[.int .i64 0, .int .i64 0, .slice none 0 0] 31 (0, 0)) (by (with_reducible repeat (first|refine z1c ?_ _|refine z3c ?_|refine z2c ?_ _));exact BK128.out)) : gb128 ≠ gb140));have n9_ := z0c ((by rw [hg];exact Nat.ne_of_gt (blk_lt (g := gb128) (o := .cells #[.int .i64 0, .int .i64 0, .slice none 0 0] 31 (0, 0)) (by (with_reducible repeat (first|refine z1c ?_ _|refine z3c ?_|refine z2c ?_ _));exact BK128.out)) : gb140 ≠ gb128));have n10_ := z0c ((by rw [hg];exact Nat.ne_of_lt (IsS78.lt (show IsS78 w0 _ g s0_0 t133 t134 from by repeat (first|(with_reducible first|exact HI0.out|apply IsS78.alloc|apply IsS78.drewN|apply IsS78.drew|apply IsS78.set_1|apply IsS78.set_2|refine IsS78.far ?_ NB0_128.out _)|exact HI0.out))) : g ≠ gb140));have n11_ := z0c ((by rw [hg];exact Nat.ne_of_gt (IsS78.lt (show IsS78 w0 _ g s0_0 t133 t134 from by repeat (first|(with_reducible first|exact HI0.out|apply IsS78.alloc|apply IsS78.drewN|apply IsS78.drew|apply IsS78.set_1|apply IsS78.set_2|refine IsS78.far ?_ NB0_128.out _)|exact HI0.out))) : gb140 ≠ g));clear HO139;clear HI0;clear BK128;clear HK;clear HB;have HO139 := n0_;have HI0 := n1_;have BK128 := n2_;have HK := n3_;have HB := n4_;have BK140 := n5_;have GW140 := n6_;have GE140 := n7_;have NB128_140 := n8_;have NB140_128 := n9_;have NB0_140 := n10_;have NB140_0 := n11_;clear n0_ n1_ n2_ n3_ n4_ n5_ n6_ n7_ n8_ n9_ n10_ n11_;clear hb hbox hg;have hnb12 := NB140_128.out;have hnc12 := NB128_140.out;have hnb13 := NB140_0.out;have hnc13 := NB0_140.out;have hcz14_0 : w11.cell? ⟨gb140, 0, none⟩ = some (.int .i64 0) := (x3c BK140.out 0).trans rfl;have hcz14_1 : w11.cell? ⟨gb140, 1, none⟩ = some (.int .i64 0) := (x3c BK140.out 1).trans rfl;have hcz14_2 : w11.cell? ⟨gb140, 2, none⟩ = some (.slice none 0 0) := (x3c BK140.out 2).trans rfl;have hfz14_0 := x2c BK140.out 0;have hfz14_1 := x2c BK140.out 1;have hfz14_2 := x2c BK140.out 2;obtain ⟨Ao15, co15, eo15⟩ := Kd.R_slice HO139.out;subst eo15)|((with_reducible refine gate_callee (f := 38) rfl ?_);refine goesL_ (some 18) rfl rfl Try.func38 (by kernel_rfl) rfl #[.pointer (some ⟨g, 0, none⟩), .int .i64 4] rfl (by (try simp only [List.map_toArray, List.map_cons, List.map_nil]);first | done |rfl|(simp only [List.length_drop, List.length_take];rfl)) ?_;(with_reducible refine (spec_l01Below.calls g s0_0 t133 t134 4 t141 t142 t143 w0 _ ?side1 ?side2 A6.out).mono ?_);(case side1 => repeat (first|(with_reducible first|exact HI0.out|apply IsS78.alloc|apply IsS78.drewN|apply IsS78.drew|apply IsS78.set_1|apply IsS78.set_2|refine IsS78.far ?_ NB0_128.out _|refine IsS78.far ?_ NB0_140.out _)|exact HI0.out));(case side2 => repeat (first|(with_reducible first|exact HB.out|apply z4c|apply z5c|apply z6c|refine z7c ?_ (IsS78.ge HI0.out)|refine z7c ?_ GE128.out|refine z7c ?_ GE140.out)|exact HB.out));rintro e w16 ⟨rfl, hi, hb, hk⟩;refine ⟨_, rfl, ?_⟩;have n0_ := z0c (KeepBut.blk hk (g' := gb128) (o := .cells #[.int .i64 0, .int .i64 0, .slice none 0 0] 31 (0, 0)) (by (with_reducible repeat (first|refine z1c ?_ _|refine z3c ?_|refine z2c ?_ _));refine x8c ?_ NB128_140.out _;(with_reducible repeat (first|refine z1c ?_ _|refine z3c ?_|refine z2c ?_ _));refine x8c ?_ NB128_140.out _;(with_reducible repeat (first|refine z1c ?_ _|refine z3c ?_|refine z2c ?_ _));refine x8c ?_ NB128_140.out _;(with_reducible repeat (first|refine z1c ?_ _|refine z3c ?_|refine z2c ?_ _));exact BK128.out) NB128_0.out (by simp));have n1_ := z0c (Kd.R_mono (Kd.R_keep (IsS78.apart (show IsS78 w0 _ g s0_0 t133 t134 from by repeat (first|(with_reducible first|exact HI0.out|apply IsS78.alloc|apply IsS78.drewN|apply IsS78.drew|apply IsS78.set_1|apply IsS78.set_2|refine IsS78.far ?_ NB0_128.out _|refine IsS78.far ?_ NB0_140.out _)|exact HI0.out)) (by (with_reducible repeat (first|apply z8c|apply z9c|apply y1c));exact (Kd.R_mono (Kd.R_far (p := ⟨gb140, 2, none⟩) (Kd.R_far (p := ⟨gb140, 1, none⟩) (Kd.R_far (p := ⟨gb140, 0, none⟩) (Kd.R_types HO139.out BK140.out (by decide)) (fun _ hk => hk.2) (.int .i64 t135)) (fun _ hk => hk.2) (.int .i64 t136)) (fun _ hk => hk.2) (.slice Ao15 t137.length co15)) (fun _ h_ => h_.1))) (by decide)) hk (fun _ h => h.2)) (fun _ h => h.1));have n2_ := z0c (KeepBut.blk hk (g' := gb140) (o := .cells #[.int .i64 t135, .int .i64 t136, .slice Ao15 t137.length co15] 31 (0, 0)) (by (with_reducible repeat (first|refine z1c ?_ _|refine z3c ?_|refine z2c ?_ _));refine blk_put (cs := #[.int .i64 t135, .int .i64 t136, .slice none 0 0]) ?_ 2 _ rfl;(with_reducible repeat (first|refine z1c ?_ _|refine z3c ?_|refine z2c ?_ _));refine blk_put (cs := #[.int .i64 t135, .int .i64 0, .slice none 0 0]) ?_ 1 _ rfl;(with_reducible repeat (first|refine z1c ?_ _|refine z3c ?_|refine z2c ?_ _));refine blk_put (cs := #[.int .i64 0, .int .i64 0, .slice none 0 0]) ?_ 0 _ rfl;(with_reducible repeat (first|refine z1c ?_ _|refine z3c ?_|refine z2c ?_ _));exact BK140.out) NB140_0.out (by simp));have n3_ := z0c (KeepBut.trans (by repeat (first|(with_reducible first|exact HK.out|apply KeepBut.set_|apply keep_drewN|apply keep_drew|apply keep_alloc|refine keep_far ?_ GW128.out _|refine keep_far ?_ GW140.out _)|exact HK.out)) hk (.inl rfl));have n4_ := z0c (hb);have n5_ := z0c (hi);clear BK128;clear HO139;clear BK140;clear HK;clear HB;clear HI0;have BK128 := n0_;have HO139 := n1_;have BK140 := n2_;have HK := n3_;have HB := n4_;have HI0 := n5_;clear n0_ n1_ n2_ n3_ n4_ n5_;(try clear hb);(try clear hk);(try clear hi);have hcz17_0 : w16.cell? ⟨gb140, 0, none⟩ = some (.int .i64 t135) := (x3c BK140.out 0).trans rfl;have hcz17_1 : w16.cell? ⟨gb140, 1, none⟩ = some (.int .i64 t136) := (x3c BK140.out 1).trans rfl;have hcz17_2 : w16.cell? ⟨gb140, 2, none⟩ = some (.slice Ao15 t137.length co15) := (x3c BK140.out 2).trans rfl;have hfz17_0 := x2c BK140.out 0;have hfz17_1 := x2c BK140.out 1;have hfz17_2 := x2c BK140.out 2))
 go_loopg [22] k (fun kq v22 w' => ∃ (x22_1 : Int) (x1001_1 : Int) (x1002_1 : Int) (x141002_1 : List Int) (u141002 : Value), v22 = .int .i64 x22_1 ∧ Aside0 (spec_l1Draw.l0 kq t141 (t137.length : Int) x22_1 s0_0 x1001_1 x1002_1 t135 t136 x141002_1 = some (r1, r2, r3, r4, r5)) ∧ Aside0 (kq ≤ k) ∧ Aside0 (Kd.R (Kd.int .i64) 3 w' w.heap.size (fun _ => True) u141002 x141002_1) ∧ Aside0 (w'.heap[gb128]? = some (.cells #[.int .i64 0, .int .i64 0, (.slice none 0 0)] 31 (0, 0))) ∧ Aside0 (w'.heap[gb140]? = some (.cells #[.int .i64 t135, .int .i64 t136, u141002] 31 (0, 0))) ∧ Aside0 (IsS78 w0 w' g s0_0 x1001_1 x1002_1) ∧ Aside0 (KeepBut w w' g none) ∧ Aside0 (Below w0.heap.size w0 w'))
 case atStart => exact ⟨(0), (t142), (t143), (t137), (.slice Ao15 t137.length co15), (by first |rfl|(simp;done)|(simp [*];done)), H', ⟨Nat.le_refl _⟩, ⟨by (with_reducible repeat (first|apply z8c|apply z9c|apply y1c));exact HO139.out⟩, ⟨by (with_reducible repeat (first|refine z1c ?_ _|refine z3c ?_|refine z2c ?_ _));exact BK128.out⟩, ⟨by (with_reducible repeat (first|refine z1c ?_ _|refine z3c ?_|refine z2c ?_ _));exact BK140.out⟩, ⟨by repeat (first|(with_reducible first|exact HI0.out|apply IsS78.alloc|apply IsS78.drewN|apply IsS78.drew|apply IsS78.set_1|apply IsS78.set_2|refine IsS78.far ?_ NB0_128.out _|refine IsS78.far ?_ NB0_140.out _)|exact HI0.out)⟩, ⟨by repeat (first|(with_reducible first|exact HK.out|apply KeepBut.set_|apply keep_drewN|apply keep_drew|apply keep_alloc|refine keep_far ?_ GW128.out _|refine keep_far ?_ GW140.out _)|exact HK.out)⟩, ⟨by repeat (first|(with_reducible first|exact HB.out|apply z4c|apply z5c|apply z6c|refine z7c ?_ (IsS78.ge HI0.out)|refine z7c ?_ GE128.out|refine z7c ?_ GE140.out)|exact HB.out)⟩⟩
 case round =>
  clear H'
  (try clear c1);(try clear p2);(try clear c3);(try clear c4);(try clear p6);(try clear c12);(try clear c13);(try clear hcz14_0);(try clear hcz14_1);(try clear hcz14_2);(try clear hcz17_0);(try clear hcz17_1);(try clear hcz17_2);(try clear hfz14_0);(try clear hfz14_1);(try clear hfz14_2);(try clear hfz17_0);(try clear hfz17_1);(try clear hfz17_2)
  obtain ⟨x22_1, x1001_1, x1002_1, x141002_1, u141002, rfl, HA, HK1, Ha_, BK128, BK140, HI0, HK, HB⟩ := hrel
  cases gk with
  | zero => exact absurd HA.out (by simp [spec_l1Draw.l0])
  | succ k1 =>
   have H := HA.out
   clear HA
   simp only [spec_l1Draw.l0] at H
   by_cases c18 : x22_1 < (t137.length : Int)
   ·rw [if_pos c18] at H
    have c18b0 : decide (x22_1 < (t137.length : Int)) = true := decide_eq_true c18
    clear c18
    by_cases c19 : t141 = 0
    ·rw [if_pos c19] at H
     have c19b0 : (t141 == 0) = true := beq_iff_eq.mpr c19
     have c19b1 : (t141 != 0) = false := bne_eq_false_iff_eq.mpr c19
     clear c19
     replace H := Option.bind_eq_some_iff.mp H
     obtain ⟨⟨t144, t145, t146⟩, A200, H⟩ := H
     replace H : (if 0 ≤ x22_1 then (if x22_1 < (x141002_1.length : Int) then (spec_l1Draw.l0 k1 t141 (t137.length : Int) (wrap64 (x22_1 + 1)) s0_0 t145 t146 t135 t136 (x141002_1.set (x22_1 : Int).toNat t144)) else (none)) else (none)) = some (r1, r2, r3, r4, r5) := H
     have A20 := z0c A200
     clear A200
     by_cases c21 : 0 ≤ x22_1
     ·rw [if_pos c21] at H
      have c21b0 : decide (0 ≤ x22_1) = true := decide_eq_true c21
      clear c21
      by_cases c22 : x22_1 < (x141002_1.length : Int)
      ·rw [if_pos c22] at H
       have c22b0 : decide (x22_1 < (x141002_1.length : Int)) = true := decide_eq_true c22
       clear c22
       obtain ⟨y147, hy147⟩ : ∃ y_ : List Int, y_ = (x141002_1.set (x22_1 : Int).toNat t144) := ⟨_, rfl⟩
       replace H : (spec_l1Draw.l0 k1 t141 (t137.length : Int) (wrap64 (x22_1 + 1)) s0_0 t145 t146 t135 t136 y147) = some (r1, r2, r3, r4, r5) := by first|(rw [hy147];with_reducible exact H)|(have H2_ := (Option.bind_some _ _).symm.trans H;rw [hy147];with_reducible exact H2_)|(have H2_ := (Option.bind_some _ _).symm.trans H;with_reducible exact H2_) | with_reducible exact H|(rw [hy147];exact H)|exact H
       have Ny147 := z0c hy147
       clear hy147
       have H' := z0c H
       clear H
       try go_wp2
       have n0_ := z0c (y1c Ha_.out)
       have n1_ := z0c (z3c BK128.out)
       have n2_ := z0c (z3c BK140.out)
       have n3_ := z0c (IsS78.drew HI0.out)
       have n4_ := z0c (keep_drew HK.out)
       have n5_ := z0c (z6c HB.out)
       clear Ha_
       clear BK128
       clear BK140
       clear HI0
       clear HK
       clear HB
       have Ha_ := n0_
       have BK128 := n1_
       have BK140 := n2_
       have HI0 := n3_
       have HK := n4_
       have HB := n5_
       clear n0_ n1_ n2_ n3_ n4_ n5_
       refine start_ (n := 7) (S := fun w' => w'.cell? ⟨gb140, 0, none⟩ = some (.int .i64 t135) ∧ w'.cell? ⟨gb140, 1, none⟩ = some (.int .i64 t136) ∧ w'.cell? ⟨gb140, 2, none⟩ = some (u141002)) (ds := [6]) #[false, false, false, false, false, false, false] (by kernel_rfl) rfl rfl ⟨(x3c BK140.out 0).trans rfl, (x3c BK140.out 1).trans rfl, (x3c BK140.out 2).trans rfl⟩ (fun hHeld => ?_)
       generalize wr.drew = w24 at Ha_ BK128 BK140 HI0 HK HB hHeld ⊢
       refine pure_ (i := 0) (N := some 42) (v := ?_) (a' := ?_) #[true, false, false, false, false, false, false] rfl rfl (by kernel_rfl) (fun _ _ _ h => h) (Or.inl ⟨by rfl, ?_⟩) ?_ ?_
       rotate_left
       ·intro w'
        go_simp
        with_reducible rfl
       rotate_left
       ·simp only [Act.put, s1c_, s2c_, s3c_, i64_w, i32_w]
        rfl
       refine pure_ (i := 2) (N := some 44) (v := ?_) (a' := ?_) #[true, false, true, false, false, false, false] rfl rfl (by kernel_rfl) (fun _ _ _ h => h) (Or.inl ⟨by rfl, ?_⟩) ?_ ?_
       rotate_left
       ·intro w'
        go_simp
        with_reducible rfl
       rotate_left
       ·simp only [Act.put, s1c_, s2c_, s3c_, i64_w, i32_w]
        rfl
       refine pure_ (i := 3) (N := some 45) (v := ?_) (a' := ?_) #[true, false, true, true, false, false, false] rfl rfl (by kernel_rfl) (fun _ _ _ h => h) (Or.inl ⟨by rfl, ?_⟩) ?_ ?_
       rotate_left
       ·intro w'
        go_simp
        with_reducible rfl
       rotate_left
       ·simp only [Act.put, s1c_, s2c_, s3c_, i64_w, i32_w]
        rfl
       refine take_ (i := 1) (N := some 43) (v := ?_) (a' := ?_) #[true, true, true, true, false, false, false] rfl rfl (by kernel_rfl) (fun _ _ _ h => h) (Or.inl ⟨by rfl, ?_⟩) hHeld ?_ ?_
       rotate_left
       ·rintro w' ⟨s0, s1, s2⟩
        go_simp
        with_reducible rfl
       rotate_left
       ·simp only [Act.put, s1c_, s2c_, s3c_, i64_w, i32_w]
        rfl
       refine one_ (i := 4) (N := some 46) #[true, true, true, true, true, false, false] rfl rfl (by kernel_rfl) (by decide) (fun K hK => ?_)
       refine goes_ Try.func38 (by kernel_rfl) rfl #[.pointer (some ⟨g, 0, none⟩), .int .i64 256] (by rfl) rfl rfl (by (try simp only [List.map_toArray, List.map_cons, List.map_nil]);first | done |rfl|(simp only [List.length_drop, List.length_take];rfl)) ?_
       with_reducible refine (spec_l01Below.calls g s0_0 x1001_1 x1002_1 256 t144 t145 t146 w0 _ ?side1 ?side2 A20.out).mono ?_
       (case side1 => repeat (first|(with_reducible first|exact HI0.out|apply IsS78.alloc|apply IsS78.drewN|apply IsS78.drew|apply IsS78.set_1|apply IsS78.set_2|refine IsS78.far ?_ NB0_128.out _|refine IsS78.far ?_ NB0_140.out _)|exact HI0.out))
       (case side2 => repeat (first|(with_reducible first|exact HB.out|apply z4c|apply z5c|apply z6c|refine z7c ?_ (IsS78.ge HI0.out)|refine z7c ?_ GE128.out|refine z7c ?_ GE140.out)|exact HB.out))
       rintro e w25 ⟨rfl, hi, hb, hk⟩
       refine ⟨_, rfl, ?_⟩
       have n0_ := z0c (Kd.R_mono (Kd.R_keep (IsS78.apart (show IsS78 w0 _ g s0_0 x1001_1 x1002_1 from by repeat (first|(with_reducible first|exact HI0.out|apply IsS78.alloc|apply IsS78.drewN|apply IsS78.drew|apply IsS78.set_1|apply IsS78.set_2|refine IsS78.far ?_ NB0_128.out _|refine IsS78.far ?_ NB0_140.out _)|exact HI0.out)) (by (with_reducible repeat (first|apply z8c|apply z9c|apply y1c));exact Ha_.out) (by decide)) hk (fun _ h => h.2)) (fun _ h => h.1))
       have n1_ := z0c (KeepBut.blk hk (g' := gb128) (o := .cells #[.int .i64 0, .int .i64 0, .slice none 0 0] 31 (0, 0)) (by (with_reducible repeat (first|refine z1c ?_ _|refine z3c ?_|refine z2c ?_ _));exact BK128.out) NB128_0.out (by simp))
       have n2_ := z0c (KeepBut.blk hk (g' := gb140) (o := .cells #[.int .i64 t135, .int .i64 t136, u141002] 31 (0, 0)) (by (with_reducible repeat (first|refine z1c ?_ _|refine z3c ?_|refine z2c ?_ _));exact BK140.out) NB140_0.out (by simp))
       have n3_ := z0c (KeepBut.trans (by repeat (first|(with_reducible first|exact HK.out|apply KeepBut.set_|apply keep_drewN|apply keep_drew|apply keep_alloc|refine keep_far ?_ GW128.out _|refine keep_far ?_ GW140.out _)|exact HK.out)) hk (.inl rfl))
       have n4_ := z0c (hb)
       have n5_ := z0c (hi)
       clear Ha_
       clear BK128
       clear BK140
       clear HK
       clear HB
       clear HI0
       have Ha_ := n0_
       have BK128 := n1_
       have BK140 := n2_
       have HK := n3_
       have HB := n4_
       have HI0 := n5_
       clear n0_ n1_ n2_ n3_ n4_ n5_
       (try clear hb)
       (try clear hb2)
       (try clear hk)
       (try clear hi)
       have p23 : 0 ≤ (x22_1 : Int) := of_decide_eq_true (by first|(with_reducible assumption) | assumption)
       have q23 : (x22_1 : Int) < ((x141002_1.length : Int) : Int) := of_decide_eq_true (by first|(with_reducible assumption) | assumption)
       obtain ⟨go23, co23, eo23, gb23, gl23, cl23, HG23⟩ := Kd.R_form Ha_.out (by omega)
       (first | cases eo23|(injection eo23 with ea_ en_ ec_;(first | subst ea_|(injection ea_ with ea_;subst ea_));subst ec_;clear en_))
       have GB23 := z0c gb23
       have GG23 := z0c HG23
       clear gb23 gl23 HG23
       obtain ⟨hx23_0, hf23_0⟩ := Kd.R_celln 0 Ha_.out (x22_1 : Int) p23 q23
       replace p23 := eq_true p23
       replace q23 := eq_true q23
       have HN0_go23 := z0c (show g ≠ go23 from by have h_ := IsS78.own_ne HI0.out Ha_.out (by decide);intro e_;exact h_ (by rw [e_];rfl))
       have HP26 := Kd.R_putn Ha_.out (x22_1 : Int) t144
       rw [← Ny147.out] at HP26
       have HQ26 := z0c HP26
       clear HP26
       refine hK.out _ _ ⟨(x3c BK140.out 0).trans rfl, (x3c BK140.out 1).trans rfl, (x3c BK140.out 2).trans rfl⟩ (fun hHeld => ?_)
       clear hK K
       refine norm_ (a' := ?_) ?_ ?_
       rotate_left
       ·show Act.put _ (some 46) _ = _
        simp only [Act.put, s1c_, s2c_, s3c_, i64_w, i32_w]
        rfl
       refine pure_ (i := 5) (N := some 47) (v := ?_) (a' := ?_) #[true, true, true, true, true, true, false] rfl rfl (by kernel_rfl) (fun _ _ _ h => h) (Or.inl ⟨by rfl, ?_⟩) ?_ ?_
       rotate_left
       ·intro w'
        go_simp
        with_reducible rfl
       rotate_left
       ·simp only [Act.put, s1c_, s2c_, s3c_, i64_w, i32_w]
        rfl
       refine last_ (i := 6) (N := none) #[true, true, true, true, true, true, true] rfl rfl (by kernel_rfl) (by decide) (fun K hK => ?_)
       refine skip_ (w1 := ?_) (by rfl) rfl ?_ ?_
       rotate_left
       ·go_simp
        rfl
       refine hK.out _ _ ?_
       clear hK K
       refine done_ (by kernel_rfl) ?_
       try go_wp2
       go_roundg k1
       case measure => have := HK1.out;omega
       case rel => exact ⟨(wrap64 (x22_1 + 1)), (t145), (t146), (y147), (.slice (some ⟨go23, 0, none⟩) x141002_1.length co23), (by first |rfl|(simp;done)|(simp [*];done)), H', ⟨by have := HK1.out;omega⟩, ⟨by (with_reducible repeat (first|apply z8c|apply z9c|apply y1c));exact HQ26.out⟩, ⟨by (with_reducible repeat (first|refine z1c ?_ _|refine z3c ?_|refine z2c ?_ _));refine x8c ?_ (by have h_ := Kd.R_ne Ha_.out BK128.out (by decide);intro e_;exact h_ (by rw [e_];rfl)) _;(with_reducible repeat (first|refine z1c ?_ _|refine z3c ?_|refine z2c ?_ _));exact BK128.out⟩, ⟨by (with_reducible repeat (first|refine z1c ?_ _|refine z3c ?_|refine z2c ?_ _));refine x8c ?_ (by have h_ := Kd.R_ne Ha_.out BK140.out (by decide);intro e_;exact h_ (by rw [e_];rfl)) _;(with_reducible repeat (first|refine z1c ?_ _|refine z3c ?_|refine z2c ?_ _));exact BK140.out⟩, ⟨by repeat (first|(with_reducible first|exact HI0.out|apply IsS78.alloc|apply IsS78.drewN|apply IsS78.drew|apply IsS78.set_1|apply IsS78.set_2|refine IsS78.far ?_ HN0_go23.out _|refine IsS78.far ?_ NB0_128.out _|refine IsS78.far ?_ NB0_140.out _)|exact HI0.out)⟩, ⟨by repeat (first|(with_reducible first|exact HK.out|apply KeepBut.set_|apply keep_drewN|apply keep_drew|apply keep_alloc|refine keep_far ?_ GB23.out _|refine keep_far ?_ GW128.out _|refine keep_far ?_ GW140.out _)|exact HK.out)⟩, ⟨by repeat (first|(with_reducible first|exact HB.out|apply z4c|apply z5c|apply z6c|refine z7c ?_ (Nat.le_trans HL.out GB23.out)|refine z7c ?_ (IsS78.ge HI0.out)|refine z7c ?_ GE128.out|refine z7c ?_ GE140.out)|exact HB.out)⟩⟩
      ·rw [if_neg c22] at H
       exact absurd H (by simp)
     ·rw [if_neg c21] at H
      exact absurd H (by simp)
    ·rw [if_neg c19] at H
     have c19b0 : (t141 == 0) = false := beq_eq_false_iff_ne.mpr c19
     have c19b1 : (t141 != 0) = true := bne_iff_ne.mpr c19
     by_cases c27 : t141 = 1
     ·rw [if_pos c27] at H
      have c27b0 : (t141 == 1) = true := beq_iff_eq.mpr c27
      have c27b1 : (t141 != 1) = false := bne_eq_false_iff_eq.mpr c27
      clear c27
      obtain ⟨y148, hy148⟩ : ∃ y_ : List Int, y_ = (([0, 255, 128, 127, 1, 254] : List Int)) := ⟨_, rfl⟩
      replace H : ((spec_l01Int.f s0_0 x1001_1 x1002_1 y148).bind fun bt151 => (if 0 ≤ x22_1 then (if x22_1 < (x141002_1.length : Int) then (spec_l1Draw.l0 k1 t141 (t137.length : Int) (wrap64 (x22_1 + 1)) s0_0 bt151.2.1 bt151.2.2 t135 t136 (x141002_1.set (x22_1 : Int).toNat bt151.1)) else (none)) else (none))) = some (r1, r2, r3, r4, r5) := by first|(rw [hy148];with_reducible exact H)|(have H2_ := (Option.bind_some _ _).symm.trans H;rw [hy148];with_reducible exact H2_)|(have H2_ := (Option.bind_some _ _).symm.trans H;with_reducible exact H2_) | with_reducible exact H|(rw [hy148];exact H)|exact H
      have Ny148 := z0c hy148
      clear hy148
      replace H := Option.bind_eq_some_iff.mp H
      obtain ⟨⟨t151, t152, t153⟩, A280, H⟩ := H
      replace H : (if 0 ≤ x22_1 then (if x22_1 < (x141002_1.length : Int) then (spec_l1Draw.l0 k1 t141 (t137.length : Int) (wrap64 (x22_1 + 1)) s0_0 t152 t153 t135 t136 (x141002_1.set (x22_1 : Int).toNat t151)) else (none)) else (none)) = some (r1, r2, r3, r4, r5) := H
      have A28 := z0c A280
      clear A280
      by_cases c29 : 0 ≤ x22_1
      ·rw [if_pos c29] at H
       have c29b0 : decide (0 ≤ x22_1) = true := decide_eq_true c29
       clear c29
       by_cases c30 : x22_1 < (x141002_1.length : Int)
       ·rw [if_pos c30] at H
        have c30b0 : decide (x22_1 < (x141002_1.length : Int)) = true := decide_eq_true c30
        clear c30
        obtain ⟨y154, hy154⟩ : ∃ y_ : List Int, y_ = (x141002_1.set (x22_1 : Int).toNat t151) := ⟨_, rfl⟩
        replace H : (spec_l1Draw.l0 k1 t141 (t137.length : Int) (wrap64 (x22_1 + 1)) s0_0 t152 t153 t135 t136 y154) = some (r1, r2, r3, r4, r5) := by first|(rw [hy154];with_reducible exact H)|(have H2_ := (Option.bind_some _ _).symm.trans H;rw [hy154];with_reducible exact H2_)|(have H2_ := (Option.bind_some _ _).symm.trans H;with_reducible exact H2_) | with_reducible exact H|(rw [hy154];exact H)|exact H
        have Ny154 := z0c hy154
        clear hy154
        have H' := z0c H
        clear H
        try go_wp2
        have n0_ := z0c (y1c Ha_.out)
        have n1_ := z0c (z3c BK128.out)
        have n2_ := z0c (z3c BK140.out)
        have n3_ := z0c (IsS78.drew HI0.out)
        have n4_ := z0c (keep_drew HK.out)
        have n5_ := z0c (z6c HB.out)
        clear Ha_
        clear BK128
        clear BK140
        clear HI0
        clear HK
        clear HB
        have Ha_ := n0_
        have BK128 := n1_
        have BK140 := n2_
        have HI0 := n3_
        have HK := n4_
        have HB := n5_
        clear n0_ n1_ n2_ n3_ n4_ n5_
        refine start_ (n := 8) (S := fun w' => w'.cell? ⟨gb140, 0, none⟩ = some (.int .i64 t135) ∧ w'.cell? ⟨gb140, 1, none⟩ = some (.int .i64 t136) ∧ w'.cell? ⟨gb140, 2, none⟩ = some (u141002)) (ds := [7]) (bsc_ 8 0) (by kernel_rfl) rfl rfl ⟨(x3c BK140.out 0).trans rfl, (x3c BK140.out 1).trans rfl, (x3c BK140.out 2).trans rfl⟩ (fun hHeld => ?_);refine with_tabW spec_l1Draw.tab11 spec_l1Draw.bits11 (fun HT_ HW_ => ?_)
        generalize wr.drew = w32 at Ha_ BK128 BK140 HI0 HK HB hHeld ⊢
        refine pure_ (i := 0) (N := some 50) (v := ?_) (a' := ?_) (bsc_ 8 1) rfl rfl (any_of HT_.out (by kernel_rfl)) (fun _ _ _ h => h) (Or.inl ⟨by rfl, ?_⟩) ?_ ?_
        rotate_left
        ·intro w'
         go_simp
         with_reducible rfl
        rotate_left
        ·simp only [Act.put, s1c_, s2c_, s3c_, i64_w, i32_w]
         rfl
        refine pure_ (i := 2) (N := some 52) (v := ?_) (a' := ?_) (bsc_ 8 5) rfl rfl (any_of HT_.out (by kernel_rfl)) (fun _ _ _ h => h) (Or.inl ⟨by rfl, ?_⟩) ?_ ?_
        rotate_left
        ·intro w'
         go_simp
         with_reducible rfl
        rotate_left
        ·simp only [Act.put, s1c_, s2c_, s3c_, i64_w, i32_w]
         rfl
        refine pure_ (i := 3) (N := some 53) (v := ?_) (a' := ?_) (bsc_ 8 13) rfl rfl (any_of HT_.out (by kernel_rfl)) (fun _ _ _ h => h) (Or.inl ⟨by rfl, ?_⟩) ?_ ?_
        rotate_left
        ·intro w'
         go_simp
         with_reducible rfl
        rotate_left
        ·simp only [Act.put, s1c_, s2c_, s3c_, i64_w, i32_w]
         rfl
        refine take_ (i := 1) (N := some 51) (v := ?_) (a' := ?_) (bsc_ 8 15) rfl rfl (take_ofW HT_.out HW_.out (by kernel_rfl)) (fun _ _ _ h => h) (Or.inl ⟨by rfl, ?_⟩) hHeld ?_ ?_
        rotate_left
        ·rintro w' ⟨s0, s1, s2⟩
         go_simp
         with_reducible rfl
        rotate_left
        ·simp only [Act.put, s1c_, s2c_, s3c_, i64_w, i32_w]
         rfl
        refine one_ (i := 4) (N := some 54) (bsc_ 8 31) rfl rfl (one_of HT_.out (by kernel_rfl)) (by decide) (fun K hK => ?_)
        refine Kd.R_lit_step (Kd.int .i64) _ 3 ?hg (N := 54) ?hd (xs := ([0, 255, 128, 127, 1, 254] : List Int)) (inner := [.int .i64 0, .int .i64 255, .int .i64 128, .int .i64 127, .int .i64 1, .int .i64 254]) (ok := fun _ => True) (okp := fun _ => True) ?hr ?hp (fun _ hk => hk) trivial (Below.refl _ _) (Nat.le_refl _) (by simp) ?_;(case hd => rfl);(case hg => rfl);(case hr => first|(go_simp;done)|(go_simp;rfl));(case hp => exact (Reps.one (show Kd.M (Kd.int .i64) _ _ _ 0 [.int .i64 0] from rfl) (Reps.one (show Kd.M (Kd.int .i64) _ _ _ 255 [.int .i64 255] from rfl) (Reps.one (show Kd.M (Kd.int .i64) _ _ _ 128 [.int .i64 128] from rfl) (Reps.one (show Kd.M (Kd.int .i64) _ _ _ 127 [.int .i64 127] from rfl) (Reps.one (show Kd.M (Kd.int .i64) _ _ _ 1 [.int .i64 1] from rfl) (Reps.one (show Kd.M (Kd.int .i64) _ _ _ 254 [.int .i64 254] from rfl) (Reps.none _ _))))))))
        intro v149 w33 ho34 hb hg_ hnew_
        clear hg_ hnew_
        (first | rw [← Ny148.out] at ho34|(simp only [Int.reduceToNat] at ho34;rw [← Ny148.out] at ho34))
        have n0_ := z0c (Kd.R_elder' (by (with_reducible repeat (first|apply z8c|apply z9c|apply y1c));exact Ha_.out) (Kd.R_base ho34) hb)
        have n1_ := z0c (Kd.R_lower (Kd.R_new' ho34 (Kd.R_lt (by (with_reducible repeat (first|apply z8c|apply z9c|apply y1c));exact Ha_.out))) (keep_size (w := w) (g := g) (row := none) (by repeat (first|(with_reducible first|exact HK.out|apply KeepBut.set_|apply keep_drewN|apply keep_drew|apply keep_alloc|refine keep_far ?_ GW128.out _|refine keep_far ?_ GW140.out _)|exact HK.out))))
        have n2_ := z0c (blk_below (g := gb128) (o := .cells #[.int .i64 0, .int .i64 0, .slice none 0 0] 31 (0, 0)) (by (with_reducible repeat (first|refine z1c ?_ _|refine z3c ?_|refine z2c ?_ _));exact BK128.out) hb)
        have n3_ := z0c (blk_below (g := gb140) (o := .cells #[.int .i64 t135, .int .i64 t136, u141002] 31 (0, 0)) (by (with_reducible repeat (first|refine z1c ?_ _|refine z3c ?_|refine z2c ?_ _));exact BK140.out) hb)
        have n4_ := z0c (IsS78.below (by repeat (first|(with_reducible first|exact HI0.out|apply IsS78.alloc|apply IsS78.drewN|apply IsS78.drew|apply IsS78.set_1|apply IsS78.set_2|refine IsS78.far ?_ NB0_128.out _|refine IsS78.far ?_ NB0_140.out _)|exact HI0.out)) hb)
        have n5_ := z0c (KeepBut.trans (by repeat (first|(with_reducible first|exact HK.out|apply KeepBut.set_|apply keep_drewN|apply keep_drew|apply keep_alloc|refine keep_far ?_ GW128.out _|refine keep_far ?_ GW140.out _)|exact HK.out)) (KeepBut.of_below hb g none) (.inl rfl))
        have n6_ := z0c (below_step (by repeat (first|(with_reducible first|exact HB.out|apply z4c|apply z5c|apply z6c|refine z7c ?_ (IsS78.ge HI0.out)|refine z7c ?_ GE128.out|refine z7c ?_ GE140.out)|exact HB.out)) hb)
        clear Ha_
        clear BK128
        clear BK140
        clear HI0
        clear HK
        clear HB
        have Ha_ := n0_
        have HO150 := n1_
        have BK128 := n2_
        have BK140 := n3_
        have HI0 := n4_
        have HK := n5_
        have HB := n6_
        clear n0_ n1_ n2_ n3_ n4_ n5_ n6_
        clear hb ho34
        obtain ⟨Ao35, co35, eo35⟩ := Kd.R_slice HO150.out
        (first | subst eo35|(injection eo35 with f1_ f2_ f3_;have f4_ := f1_.symm;have f5_ := f3_.symm;clear f1_ f2_ f3_;subst f4_;subst f5_))
        refine hK.out _ _ ⟨(x3c BK140.out 0).trans rfl, (x3c BK140.out 1).trans rfl, (x3c BK140.out 2).trans rfl⟩ (fun hHeld => ?_)
        clear hK K
        refine norm_ (a' := ?_) ?_ ?_
        rotate_left
        ·show Act.put _ (some 54) _ = _
         simp only [Act.put, s1c_, s2c_, s3c_, i64_w, i32_w]
         rfl
        refine one_ (i := 5) (N := some 55) (bsc_ 8 63) rfl rfl (one_of HT_.out (by kernel_rfl)) (by decide) (fun K hK => ?_)
        refine goes_ Try.func60 (by kernel_rfl) rfl #[.pointer (some ⟨g, 0, none⟩), .slice Ao35 y148.length co35] (by rfl) rfl rfl (by (try simp only [List.map_toArray, List.map_cons, List.map_nil]);first | done |rfl|(simp only [List.length_drop, List.length_take];rfl)) ?_
        with_reducible refine (spec_l01Int.calls g s0_0 x1001_1 x1002_1 _ _ y148 t151 t152 t153 w0 _ ?side1 ?side2 ?side3 ?side4 ?side5 A28.out).mono ?_
        (case side1 => repeat (first|(with_reducible first|exact HI0.out|apply IsS78.alloc|apply IsS78.drewN|apply IsS78.drew|apply IsS78.set_1|apply IsS78.set_2|refine IsS78.far ?_ NB0_128.out _|refine IsS78.far ?_ NB0_140.out _)|exact HI0.out))
        (case side2 => repeat (first|(with_reducible first|exact HB.out|apply z4c|apply z5c|apply z6c|refine z7c ?_ (IsS78.ge HI0.out)|refine z7c ?_ GE128.out|refine z7c ?_ GE140.out)|exact HB.out))
        (case side3 => repeat (first|exact (Kd.R_reads' HO150.out).2.2|(with_reducible refine Kd.C_alloc ?_ _)|(with_reducible refine Kd.C_drewN ?_ _)|(with_reducible refine Kd.C_drew ?_)))
        (case side4 => exact (Kd.R_reads' HO150.out).2.1)
        (case side5 => exact far_slice (IsS78.own_ne HI0.out HO150.out (by decide)))
        rintro e w36 ⟨rfl, hi, hb, hk⟩
        refine ⟨_, rfl, ?_⟩
        have n0_ := z0c (Kd.R_mono (Kd.R_keep (IsS78.apart (show IsS78 w0 _ g s0_0 x1001_1 x1002_1 from by repeat (first|(with_reducible first|exact HI0.out|apply IsS78.alloc|apply IsS78.drewN|apply IsS78.drew|apply IsS78.set_1|apply IsS78.set_2|refine IsS78.far ?_ NB0_128.out _|refine IsS78.far ?_ NB0_140.out _)|exact HI0.out)) (by (with_reducible repeat (first|apply z8c|apply z9c|apply y1c));exact Ha_.out) (by decide)) hk (fun _ h => h.2)) (fun _ h => h.1))
        have n1_ := z0c (KeepBut.blk hk (g' := gb128) (o := .cells #[.int .i64 0, .int .i64 0, .slice none 0 0] 31 (0, 0)) (by (with_reducible repeat (first|refine z1c ?_ _|refine z3c ?_|refine z2c ?_ _));exact BK128.out) NB128_0.out (by simp))
        have n2_ := z0c (KeepBut.blk hk (g' := gb140) (o := .cells #[.int .i64 t135, .int .i64 t136, u141002] 31 (0, 0)) (by (with_reducible repeat (first|refine z1c ?_ _|refine z3c ?_|refine z2c ?_ _));exact BK140.out) NB140_0.out (by simp))
        have n3_ := z0c (Kd.R_mono (Kd.R_keep (IsS78.apart (show IsS78 w0 _ g s0_0 x1001_1 x1002_1 from by repeat (first|(with_reducible first|exact HI0.out|apply IsS78.alloc|apply IsS78.drewN|apply IsS78.drew|apply IsS78.set_1|apply IsS78.set_2|refine IsS78.far ?_ NB0_128.out _|refine IsS78.far ?_ NB0_140.out _)|exact HI0.out)) (by (with_reducible repeat (first|apply z8c|apply z9c|apply y1c));exact HO150.out) (by decide)) hk (fun _ h => h.2)) (fun _ h => h.1))
        have n4_ := z0c (KeepBut.trans (by repeat (first|(with_reducible first|exact HK.out|apply KeepBut.set_|apply keep_drewN|apply keep_drew|apply keep_alloc|refine keep_far ?_ GW128.out _|refine keep_far ?_ GW140.out _)|exact HK.out)) hk (.inl rfl))
        have n5_ := z0c (hb)
        have n6_ := z0c (hi)
        clear Ha_
        clear BK128
        clear BK140
        clear HO150
        clear HK
        clear HB
        clear HI0
        have Ha_ := n0_
        have BK128 := n1_
        have BK140 := n2_
        have HO150 := n3_
        have HK := n4_
        have HB := n5_
        have HI0 := n6_
        clear n0_ n1_ n2_ n3_ n4_ n5_ n6_
        (try clear hb)
        (try clear hb2)
        (try clear hk)
        (try clear hi)
        have p31 : 0 ≤ (x22_1 : Int) := of_decide_eq_true (by first|(with_reducible assumption) | assumption)
        have q31 : (x22_1 : Int) < ((x141002_1.length : Int) : Int) := of_decide_eq_true (by first|(with_reducible assumption) | assumption)
        obtain ⟨go31, co31, eo31, gb31, gl31, cl31, HG31⟩ := Kd.R_form Ha_.out (by omega)
        (first | cases eo31|(injection eo31 with ea_ en_ ec_;(first | subst ea_|(injection ea_ with ea_;subst ea_));subst ec_;clear en_))
        have GB31 := z0c gb31
        have GG31 := z0c HG31
        clear gb31 gl31 HG31
        obtain ⟨hx31_0, hf31_0⟩ := Kd.R_celln 0 Ha_.out (x22_1 : Int) p31 q31
        replace p31 := eq_true p31
        replace q31 := eq_true q31
        have HN0_go31 := z0c (show g ≠ go31 from by have h_ := IsS78.own_ne HI0.out Ha_.out (by decide);intro e_;exact h_ (by rw [e_];rfl))
        have HP37 := Kd.R_putn Ha_.out (x22_1 : Int) t151
        rw [← Ny154.out] at HP37
        have HQ37 := z0c HP37
        clear HP37
        refine hK.out _ _ ⟨(x3c BK140.out 0).trans rfl, (x3c BK140.out 1).trans rfl, (x3c BK140.out 2).trans rfl⟩ (fun hHeld => ?_)
        clear hK K
        refine norm_ (a' := ?_) ?_ ?_
        rotate_left
        ·show Act.put _ (some 55) _ = _
         simp only [Act.put, s1c_, s2c_, s3c_, i64_w, i32_w]
         rfl
        refine pure_ (i := 6) (N := some 56) (v := ?_) (a' := ?_) (bsc_ 8 127) rfl rfl (any_of HT_.out (by kernel_rfl)) (fun _ _ _ h => h) (Or.inl ⟨by rfl, ?_⟩) ?_ ?_
        rotate_left
        ·intro w'
         go_simp
         with_reducible rfl
        rotate_left
        ·simp only [Act.put, s1c_, s2c_, s3c_, i64_w, i32_w]
         rfl
        refine last_ (i := 7) (N := none) (bsc_ 8 255) rfl rfl (one_of HT_.out (by kernel_rfl)) (by decide) (fun K hK => ?_)
        refine skip_ (w1 := ?_) (by rfl) rfl ?_ ?_
        rotate_left
        ·go_simp
         rfl
        refine hK.out _ _ ?_
        clear hK K
        refine done_ (done_of HT_.out (by kernel_rfl)) ?_
        try go_wp2
        go_roundg k1
        case measure => have := HK1.out;omega
        case rel => exact ⟨(wrap64 (x22_1 + 1)), (t152), (t153), (y154), (.slice (some ⟨go31, 0, none⟩) x141002_1.length co31), (by first |rfl|(simp;done)|(simp [*];done)), H', ⟨by have := HK1.out;omega⟩, ⟨by (with_reducible repeat (first|apply z8c|apply z9c|apply y1c));exact Kd.R_mono HQ37.out (fun _ hk => trivial)⟩, ⟨by (with_reducible repeat (first|refine z1c ?_ _|refine z3c ?_|refine z2c ?_ _));refine x8c ?_ (by have h_ := Kd.R_ne Ha_.out BK128.out (by decide);intro e_;exact h_ (by rw [e_];rfl)) _;(with_reducible repeat (first|refine z1c ?_ _|refine z3c ?_|refine z2c ?_ _));exact BK128.out⟩, ⟨by (with_reducible repeat (first|refine z1c ?_ _|refine z3c ?_|refine z2c ?_ _));refine x8c ?_ (by have h_ := Kd.R_ne Ha_.out BK140.out (by decide);intro e_;exact h_ (by rw [e_];rfl)) _;(with_reducible repeat (first|refine z1c ?_ _|refine z3c ?_|refine z2c ?_ _));exact BK140.out⟩, ⟨by repeat (first|(with_reducible first|exact HI0.out|apply IsS78.alloc|apply IsS78.drewN|apply IsS78.drew|apply IsS78.set_1|apply IsS78.set_2|refine IsS78.far ?_ HN0_go31.out _|refine IsS78.far ?_ NB0_128.out _|refine IsS78.far ?_ NB0_140.out _)|exact HI0.out)⟩, ⟨by repeat (first|(with_reducible first|exact HK.out|apply KeepBut.set_|apply keep_drewN|apply keep_drew|apply keep_alloc|refine keep_far ?_ GB31.out _|refine keep_far ?_ GW128.out _|refine keep_far ?_ GW140.out _)|exact HK.out)⟩, ⟨by repeat (first|(with_reducible first|exact HB.out|apply z4c|apply z5c|apply z6c|refine z7c ?_ (Nat.le_trans HL.out GB31.out)|refine z7c ?_ (IsS78.ge HI0.out)|refine z7c ?_ GE128.out|refine z7c ?_ GE140.out)|exact HB.out)⟩⟩
       ·rw [if_neg c30] at H
        exact absurd H (by simp)
      ·rw [if_neg c29] at H
       exact absurd H (by simp)
     ·rw [if_neg c27] at H
      have c27b0 : (t141 == 1) = false := beq_eq_false_iff_ne.mpr c27
      have c27b1 : (t141 != 1) = true := bne_iff_ne.mpr c27
      by_cases c38 : t141 = 2
      ·rw [if_pos c38] at H
       have c38b0 : (t141 == 2) = true := beq_iff_eq.mpr c38
       have c38b1 : (t141 != 2) = false := bne_eq_false_iff_eq.mpr c38
       clear c38
       replace H := Option.bind_eq_some_iff.mp H
       obtain ⟨⟨t155, t156, t157⟩, A390, H⟩ := H
       replace H : (if 0 ≤ x22_1 then (if x22_1 < (x141002_1.length : Int) then (spec_l1Draw.l0 k1 t141 (t137.length : Int) (wrap64 (x22_1 + 1)) s0_0 t156 t157 t135 t136 (x141002_1.set (x22_1 : Int).toNat t155)) else (none)) else (none)) = some (r1, r2, r3, r4, r5) := H
       have A39 := z0c A390
       clear A390
       by_cases c40 : 0 ≤ x22_1
       ·rw [if_pos c40] at H
        have c40b0 : decide (0 ≤ x22_1) = true := decide_eq_true c40
        clear c40
        by_cases c41 : x22_1 < (x141002_1.length : Int)
        ·rw [if_pos c41] at H
         have c41b0 : decide (x22_1 < (x141002_1.length : Int)) = true := decide_eq_true c41
         clear c41
         obtain ⟨y158, hy158⟩ : ∃ y_ : List Int, y_ = (x141002_1.set (x22_1 : Int).toNat t155) := ⟨_, rfl⟩
         replace H : (spec_l1Draw.l0 k1 t141 (t137.length : Int) (wrap64 (x22_1 + 1)) s0_0 t156 t157 t135 t136 y158) = some (r1, r2, r3, r4, r5) := by first|(rw [hy158];with_reducible exact H)|(have H2_ := (Option.bind_some _ _).symm.trans H;rw [hy158];with_reducible exact H2_)|(have H2_ := (Option.bind_some _ _).symm.trans H;with_reducible exact H2_) | with_reducible exact H|(rw [hy158];exact H)|exact H
         have Ny158 := z0c hy158
         clear hy158
         have H' := z0c H
         clear H
         try go_wp2
         have n0_ := z0c (y1c Ha_.out)
         have n1_ := z0c (z3c BK128.out)
         have n2_ := z0c (z3c BK140.out)
         have n3_ := z0c (IsS78.drew HI0.out)
         have n4_ := z0c (keep_drew HK.out)
         have n5_ := z0c (z6c HB.out)
         clear Ha_
         clear BK128
         clear BK140
         clear HI0
         clear HK
         clear HB
         have Ha_ := n0_
         have BK128 := n1_
         have BK140 := n2_
         have HI0 := n3_
         have HK := n4_
         have HB := n5_
         clear n0_ n1_ n2_ n3_ n4_ n5_
         refine start_ (n := 7) (S := fun w' => w'.cell? ⟨gb140, 0, none⟩ = some (.int .i64 t135) ∧ w'.cell? ⟨gb140, 1, none⟩ = some (.int .i64 t136) ∧ w'.cell? ⟨gb140, 2, none⟩ = some (u141002)) (ds := [6]) #[false, false, false, false, false, false, false] (by kernel_rfl) rfl rfl ⟨(x3c BK140.out 0).trans rfl, (x3c BK140.out 1).trans rfl, (x3c BK140.out 2).trans rfl⟩ (fun hHeld => ?_)
         generalize wr.drew = w43 at Ha_ BK128 BK140 HI0 HK HB hHeld ⊢
         refine pure_ (i := 0) (N := some 59) (v := ?_) (a' := ?_) #[true, false, false, false, false, false, false] rfl rfl (by kernel_rfl) (fun _ _ _ h => h) (Or.inl ⟨by rfl, ?_⟩) ?_ ?_
         rotate_left
         ·intro w'
          go_simp
          with_reducible rfl
         rotate_left
         ·simp only [Act.put, s1c_, s2c_, s3c_, i64_w, i32_w]
          rfl
         refine pure_ (i := 2) (N := some 61) (v := ?_) (a' := ?_) #[true, false, true, false, false, false, false] rfl rfl (by kernel_rfl) (fun _ _ _ h => h) (Or.inl ⟨by rfl, ?_⟩) ?_ ?_
         rotate_left
         ·intro w'
          go_simp
          with_reducible rfl
         rotate_left
         ·simp only [Act.put, s1c_, s2c_, s3c_, i64_w, i32_w]
          rfl
         refine pure_ (i := 3) (N := some 62) (v := ?_) (a' := ?_) #[true, false, true, true, false, false, false] rfl rfl (by kernel_rfl) (fun _ _ _ h => h) (Or.inl ⟨by rfl, ?_⟩) ?_ ?_
         rotate_left
         ·intro w'
          go_simp
          with_reducible rfl
         rotate_left
         ·simp only [Act.put, s1c_, s2c_, s3c_, i64_w, i32_w]
          rfl
         refine take_ (i := 1) (N := some 60) (v := ?_) (a' := ?_) #[true, true, true, true, false, false, false] rfl rfl (by kernel_rfl) (fun _ _ _ h => h) (Or.inl ⟨by rfl, ?_⟩) hHeld ?_ ?_
         rotate_left
         ·rintro w' ⟨s0, s1, s2⟩
          go_simp
          with_reducible rfl
         rotate_left
         ·simp only [Act.put, s1c_, s2c_, s3c_, i64_w, i32_w]
          rfl
         refine one_ (i := 4) (N := some 63) #[true, true, true, true, true, false, false] rfl rfl (by kernel_rfl) (by decide) (fun K hK => ?_)
         refine goes_ Try.func38 (by kernel_rfl) rfl #[.pointer (some ⟨g, 0, none⟩), .int .i64 2] (by rfl) rfl rfl (by (try simp only [List.map_toArray, List.map_cons, List.map_nil]);first | done |rfl|(simp only [List.length_drop, List.length_take];rfl)) ?_
         with_reducible refine (spec_l01Below.calls g s0_0 x1001_1 x1002_1 2 t155 t156 t157 w0 _ ?side1 ?side2 A39.out).mono ?_
         (case side1 => repeat (first|(with_reducible first|exact HI0.out|apply IsS78.alloc|apply IsS78.drewN|apply IsS78.drew|apply IsS78.set_1|apply IsS78.set_2|refine IsS78.far ?_ NB0_128.out _|refine IsS78.far ?_ NB0_140.out _)|exact HI0.out))
         (case side2 => repeat (first|(with_reducible first|exact HB.out|apply z4c|apply z5c|apply z6c|refine z7c ?_ (IsS78.ge HI0.out)|refine z7c ?_ GE128.out|refine z7c ?_ GE140.out)|exact HB.out))
         rintro e w44 ⟨rfl, hi, hb, hk⟩
         refine ⟨_, rfl, ?_⟩
         have n0_ := z0c (Kd.R_mono (Kd.R_keep (IsS78.apart (show IsS78 w0 _ g s0_0 x1001_1 x1002_1 from by repeat (first|(with_reducible first|exact HI0.out|apply IsS78.alloc|apply IsS78.drewN|apply IsS78.drew|apply IsS78.set_1|apply IsS78.set_2|refine IsS78.far ?_ NB0_128.out _|refine IsS78.far ?_ NB0_140.out _)|exact HI0.out)) (by (with_reducible repeat (first|apply z8c|apply z9c|apply y1c));exact Ha_.out) (by decide)) hk (fun _ h => h.2)) (fun _ h => h.1))
         have n1_ := z0c (KeepBut.blk hk (g' := gb128) (o := .cells #[.int .i64 0, .int .i64 0, .slice none 0 0] 31 (0, 0)) (by (with_reducible repeat (first|refine z1c ?_ _|refine z3c ?_|refine z2c ?_ _));exact BK128.out) NB128_0.out (by simp))
         have n2_ := z0c (KeepBut.blk hk (g' := gb140) (o := .cells #[.int .i64 t135, .int .i64 t136, u141002] 31 (0, 0)) (by (with_reducible repeat (first|refine z1c ?_ _|refine z3c ?_|refine z2c ?_ _));exact BK140.out) NB140_0.out (by simp))
         have n3_ := z0c (KeepBut.trans (by repeat (first|(with_reducible first|exact HK.out|apply KeepBut.set_|apply keep_drewN|apply keep_drew|apply keep_alloc|refine keep_far ?_ GW128.out _|refine keep_far ?_ GW140.out _)|exact HK.out)) hk (.inl rfl))
         have n4_ := z0c (hb)
         have n5_ := z0c (hi)
         clear Ha_
         clear BK128
         clear BK140
         clear HK
         clear HB
         clear HI0
         have Ha_ := n0_
         have BK128 := n1_
         have BK140 := n2_
         have HK := n3_
         have HB := n4_
         have HI0 := n5_
         clear n0_ n1_ n2_ n3_ n4_ n5_
         (try clear hb)
         (try clear hb2)
         (try clear hk)
         (try clear hi)
         have p42 : 0 ≤ (x22_1 : Int) := of_decide_eq_true (by first|(with_reducible assumption) | assumption)
         have q42 : (x22_1 : Int) < ((x141002_1.length : Int) : Int) := of_decide_eq_true (by first|(with_reducible assumption) | assumption)
         obtain ⟨go42, co42, eo42, gb42, gl42, cl42, HG42⟩ := Kd.R_form Ha_.out (by omega)
         (first | cases eo42|(injection eo42 with ea_ en_ ec_;(first | subst ea_|(injection ea_ with ea_;subst ea_));subst ec_;clear en_))
         have GB42 := z0c gb42
         have GG42 := z0c HG42
         clear gb42 gl42 HG42
         obtain ⟨hx42_0, hf42_0⟩ := Kd.R_celln 0 Ha_.out (x22_1 : Int) p42 q42
         replace p42 := eq_true p42
         replace q42 := eq_true q42
         have HN0_go42 := z0c (show g ≠ go42 from by have h_ := IsS78.own_ne HI0.out Ha_.out (by decide);intro e_;exact h_ (by rw [e_];rfl))
         have HP45 := Kd.R_putn Ha_.out (x22_1 : Int) t155
         rw [← Ny158.out] at HP45
         have HQ45 := z0c HP45
         clear HP45
         refine hK.out _ _ ⟨(x3c BK140.out 0).trans rfl, (x3c BK140.out 1).trans rfl, (x3c BK140.out 2).trans rfl⟩ (fun hHeld => ?_)
         clear hK K
         refine norm_ (a' := ?_) ?_ ?_
         rotate_left
         ·show Act.put _ (some 63) _ = _
          simp only [Act.put, s1c_, s2c_, s3c_, i64_w, i32_w]
          rfl
         refine pure_ (i := 5) (N := some 64) (v := ?_) (a' := ?_) #[true, true, true, true, true, true, false] rfl rfl (by kernel_rfl) (fun _ _ _ h => h) (Or.inl ⟨by rfl, ?_⟩) ?_ ?_
         rotate_left
         ·intro w'
          go_simp
          with_reducible rfl
         rotate_left
         ·simp only [Act.put, s1c_, s2c_, s3c_, i64_w, i32_w]
          rfl
         refine last_ (i := 6) (N := none) #[true, true, true, true, true, true, true] rfl rfl (by kernel_rfl) (by decide) (fun K hK => ?_)
         refine skip_ (w1 := ?_) (by rfl) rfl ?_ ?_
         rotate_left
         ·go_simp
          rfl
         refine hK.out _ _ ?_
         clear hK K
         refine done_ (by kernel_rfl) ?_
         try go_wp2
         go_roundg k1
         case measure => have := HK1.out;omega
         case rel => exact ⟨(wrap64 (x22_1 + 1)), (t156), (t157), (y158), (.slice (some ⟨go42, 0, none⟩) x141002_1.length co42), (by first |rfl|(simp;done)|(simp [*];done)), H', ⟨by have := HK1.out;omega⟩, ⟨by (with_reducible repeat (first|apply z8c|apply z9c|apply y1c));exact HQ45.out⟩, ⟨by (with_reducible repeat (first|refine z1c ?_ _|refine z3c ?_|refine z2c ?_ _));refine x8c ?_ (by have h_ := Kd.R_ne Ha_.out BK128.out (by decide);intro e_;exact h_ (by rw [e_];rfl)) _;(with_reducible repeat (first|refine z1c ?_ _|refine z3c ?_|refine z2c ?_ _));exact BK128.out⟩, ⟨by (with_reducible repeat (first|refine z1c ?_ _|refine z3c ?_|refine z2c ?_ _));refine x8c ?_ (by have h_ := Kd.R_ne Ha_.out BK140.out (by decide);intro e_;exact h_ (by rw [e_];rfl)) _;(with_reducible repeat (first|refine z1c ?_ _|refine z3c ?_|refine z2c ?_ _));exact BK140.out⟩, ⟨by repeat (first|(with_reducible first|exact HI0.out|apply IsS78.alloc|apply IsS78.drewN|apply IsS78.drew|apply IsS78.set_1|apply IsS78.set_2|refine IsS78.far ?_ HN0_go42.out _|refine IsS78.far ?_ NB0_128.out _|refine IsS78.far ?_ NB0_140.out _)|exact HI0.out)⟩, ⟨by repeat (first|(with_reducible first|exact HK.out|apply KeepBut.set_|apply keep_drewN|apply keep_drew|apply keep_alloc|refine keep_far ?_ GB42.out _|refine keep_far ?_ GW128.out _|refine keep_far ?_ GW140.out _)|exact HK.out)⟩, ⟨by repeat (first|(with_reducible first|exact HB.out|apply z4c|apply z5c|apply z6c|refine z7c ?_ (Nat.le_trans HL.out GB42.out)|refine z7c ?_ (IsS78.ge HI0.out)|refine z7c ?_ GE128.out|refine z7c ?_ GE140.out)|exact HB.out)⟩⟩
        ·rw [if_neg c41] at H
         exact absurd H (by simp)
       ·rw [if_neg c40] at H
        exact absurd H (by simp)
      ·rw [if_neg c38] at H
       have c38b0 : (t141 == 2) = false := beq_eq_false_iff_ne.mpr c38
       have c38b1 : (t141 != 2) = true := bne_iff_ne.mpr c38
       by_cases c46 : t135 = 0
       ·rw [if_pos c46] at H
        exact absurd H (by simp)
       ·rw [if_neg c46] at H
        have c46b0 : (t135 == 0) = false := beq_eq_false_iff_ne.mpr c46
        have c46b1 : (t135 != 0) = true := bne_iff_ne.mpr c46
        obtain ⟨ji47, hji47⟩ : ∃ j_ : Int, (mx 1 (wrap64 (t135 - 1))) = j_ := ⟨_, rfl⟩
        replace H : (if (ji47) = 0 then (none) else (if 0 ≤ x22_1 then (if x22_1 < (x141002_1.length : Int) then (spec_l1Draw.l0 k1 t141 (t137.length : Int) (wrap64 (x22_1 + 1)) s0_0 x1001_1 x1002_1 t135 t136 (x141002_1.set (x22_1 : Int).toNat (wrap64 (Int.tdiv (wrap64 ((Int.tmod x22_1 t135) * 255)) (ji47))))) else (none)) else (none))) = some (r1, r2, r3, r4, r5) := by first|(rw [hji47] at H;exact H)|(simp only [hji47] at H ⊢;exact H)
        have hji47_ : (if 1 < (wrap64 (t135 - 1)) then (wrap64 (t135 - 1)) else 1) = ji47 := hji47
        by_cases c48 : (ji47) = 0
        ·rw [if_pos c48] at H
         exact absurd H (by simp)
        ·rw [if_neg c48] at H
         have c48b0 : ((ji47) == 0) = false := beq_eq_false_iff_ne.mpr c48
         have c48b1 : ((ji47) != 0) = true := bne_iff_ne.mpr c48
         by_cases c49 : 0 ≤ x22_1
         ·rw [if_pos c49] at H
          have c49b0 : decide (0 ≤ x22_1) = true := decide_eq_true c49
          clear c49
          by_cases c50 : x22_1 < (x141002_1.length : Int)
          ·rw [if_pos c50] at H
           have c50b0 : decide (x22_1 < (x141002_1.length : Int)) = true := decide_eq_true c50
           clear c50
           obtain ⟨y159, hy159⟩ : ∃ y_ : List Int, y_ = (x141002_1.set (x22_1 : Int).toNat (wrap64 (Int.tdiv (wrap64 ((Int.tmod x22_1 t135) * 255)) (ji47)))) := ⟨_, rfl⟩
           replace H : (spec_l1Draw.l0 k1 t141 (t137.length : Int) (wrap64 (x22_1 + 1)) s0_0 x1001_1 x1002_1 t135 t136 y159) = some (r1, r2, r3, r4, r5) := by first|(rw [hy159];with_reducible exact H)|(have H2_ := (Option.bind_some _ _).symm.trans H;rw [hy159];with_reducible exact H2_)|(have H2_ := (Option.bind_some _ _).symm.trans H;with_reducible exact H2_) | with_reducible exact H|(rw [hy159];exact H)|exact H
           have Ny159 := z0c hy159
           clear hy159
           have H' := z0c H
           clear H
           try go_wp2
           have n0_ := z0c (y1c Ha_.out)
           have n1_ := z0c (z3c BK128.out)
           have n2_ := z0c (z3c BK140.out)
           have n3_ := z0c (IsS78.drew HI0.out)
           have n4_ := z0c (keep_drew HK.out)
           have n5_ := z0c (z6c HB.out)
           clear Ha_
           clear BK128
           clear BK140
           clear HI0
           clear HK
           clear HB
           have Ha_ := n0_
           have BK128 := n1_
           have BK140 := n2_
           have HI0 := n3_
           have HK := n4_
           have HB := n5_
           clear n0_ n1_ n2_ n3_ n4_ n5_
           have p51 : 0 ≤ (x22_1 : Int) := of_decide_eq_true (by first|(with_reducible assumption) | assumption)
           have q51 : (x22_1 : Int) < ((x141002_1.length : Int) : Int) := of_decide_eq_true (by first|(with_reducible assumption) | assumption)
           obtain ⟨go51, co51, eo51, gb51, gl51, cl51, HG51⟩ := Kd.R_form Ha_.out (by omega)
           (first | cases eo51|(injection eo51 with ea_ en_ ec_;(first | subst ea_|(injection ea_ with ea_;subst ea_));subst ec_;clear en_))
           have GB51 := z0c gb51
           have GG51 := z0c HG51
           clear gb51 gl51 HG51
           obtain ⟨hx51_0, hf51_0⟩ := Kd.R_celln 0 Ha_.out (x22_1 : Int) p51 q51
           replace p51 := eq_true p51
           replace q51 := eq_true q51
           have HN0_go51 := z0c (show g ≠ go51 from by have h_ := IsS78.own_ne HI0.out Ha_.out (by decide);intro e_;exact h_ (by rw [e_];rfl))
           have HP53 := Kd.R_putn Ha_.out (x22_1 : Int) (wrap64 (Int.tdiv (wrap64 ((Int.tmod x22_1 t135) * 255)) (ji47)))
           rw [← Ny159.out] at HP53
           have HQ53 := z0c HP53
           clear HP53
           refine start_ (n := 15) (S := fun w' => w'.cell? ⟨gb140, 0, none⟩ = some (.int .i64 t135) ∧ w'.cell? ⟨gb140, 1, none⟩ = some (.int .i64 t136) ∧ w'.cell? ⟨gb140, 2, none⟩ = some (.slice (some ⟨go51, 0, none⟩) x141002_1.length co51)) (ds := [14]) (bsc_ 15 0) (by kernel_rfl) rfl rfl ⟨(x3c BK140.out 0).trans rfl, (x3c BK140.out 1).trans rfl, (x3c BK140.out 2).trans rfl⟩ (fun hHeld => ?_);refine with_tabW spec_l1Draw.tab7 spec_l1Draw.bits7 (fun HT_ HW_ => ?_)
           generalize wr.drew = w52 at Ha_ BK128 BK140 HI0 HK HB GG51 HQ53 hf51_0 hx51_0 hHeld ⊢
           refine pure_ (i := 0) (N := some 26) (v := ?_) (a' := ?_) (bsc_ 15 1) rfl rfl (any_of HT_.out (by kernel_rfl)) (fun _ _ _ h => h) (Or.inl ⟨by rfl, ?_⟩) ?_ ?_
           rotate_left
           ·intro w'
            go_simp
            with_reducible rfl
           rotate_left
           ·simp only [Act.put, s1c_, s2c_, s3c_, i64_w, i32_w]
            rfl
           refine pure_ (i := 2) (N := some 28) (v := ?_) (a' := ?_) (bsc_ 15 5) rfl rfl (any_of HT_.out (by kernel_rfl)) (fun _ _ _ h => h) (Or.inl ⟨by rfl, ?_⟩) ?_ ?_
           rotate_left
           ·intro w'
            go_simp
            with_reducible rfl
           rotate_left
           ·simp only [Act.put, s1c_, s2c_, s3c_, i64_w, i32_w]
            rfl
           refine pure_ (i := 3) (N := some 29) (v := ?_) (a' := ?_) (bsc_ 15 13) rfl rfl (any_of HT_.out (by kernel_rfl)) (fun _ _ _ h => h) (Or.inl ⟨by rfl, ?_⟩) ?_ ?_
           rotate_left
           ·intro w'
            go_simp
            with_reducible rfl
           rotate_left
           ·simp only [Act.put, s1c_, s2c_, s3c_, i64_w, i32_w]
            rfl
           refine pure_ (i := 4) (N := some 30) (v := ?_) (a' := ?_) (bsc_ 15 29) rfl rfl (any_of HT_.out (by kernel_rfl)) (fun _ _ _ h => h) (Or.inl ⟨by rfl, ?_⟩) ?_ ?_
           rotate_left
           ·intro w'
            go_simp
            with_reducible rfl
           rotate_left
           ·simp only [Act.put, s1c_, s2c_, s3c_, i64_w, i32_w]
            rfl
           refine pure_ (i := 8) (N := some 34) (v := ?_) (a' := ?_) (bsc_ 15 285) rfl rfl (any_of HT_.out (by kernel_rfl)) (fun _ _ _ h => h) (Or.inl ⟨by rfl, ?_⟩) ?_ ?_
           rotate_left
           ·intro w'
            go_simp
            with_reducible rfl
           rotate_left
           ·simp only [Act.put, s1c_, s2c_, s3c_, i64_w, i32_w]
            rfl
           refine take_ (i := 1) (N := some 27) (v := ?_) (a' := ?_) (bsc_ 15 287) rfl rfl (take_ofW HT_.out HW_.out (by kernel_rfl)) (fun _ _ _ h => h) (Or.inl ⟨by rfl, ?_⟩) hHeld ?_ ?_
           rotate_left
           ·rintro w' ⟨s0, s1, s2⟩
            go_simp
            with_reducible rfl
           rotate_left
           ·simp only [Act.put, s1c_, s2c_, s3c_, i64_w, i32_w]
            rfl
           refine take_ (i := 5) (N := some 31) (v := ?_) (a' := ?_) (bsc_ 15 319) rfl rfl (take_ofW HT_.out HW_.out (by kernel_rfl)) (fun _ _ _ h => h) (Or.inl ⟨by rfl, ?_⟩) hHeld ?_ ?_
           rotate_left
           ·rintro w' ⟨s0, s1, s2⟩
            go_simp
            with_reducible rfl
           rotate_left
           ·simp only [Act.put, s1c_, s2c_, s3c_, i64_w, i32_w]
            rfl
           refine pure_ (i := 6) (N := some 32) (v := ?_) (a' := ?_) (bsc_ 15 383) rfl rfl (any_of HT_.out (by kernel_rfl)) (fun _ _ _ h => h) (Or.inl ⟨by rfl, ?_⟩) ?_ ?_
           rotate_left
           ·intro w'
            go_simp
            with_reducible rfl
           rotate_left
           ·simp only [Act.put, s1c_, s2c_, s3c_, i64_w, i32_w]
            rfl
           refine pure_ (i := 7) (N := some 33) (v := ?_) (a' := ?_) (bsc_ 15 511) rfl rfl (any_of HT_.out (by kernel_rfl)) (fun _ _ _ h => h) (Or.inl ⟨by rfl, ?_⟩) ?_ ?_
           rotate_left
           ·intro w'
            go_simp
            with_reducible rfl
           rotate_left
           ·simp only [Act.put, s1c_, s2c_, s3c_, i64_w, i32_w]
            rfl
           refine take_ (i := 9) (N := some 35) (v := ?_) (a' := ?_) (bsc_ 15 1023) rfl rfl (take_ofW HT_.out HW_.out (by kernel_rfl)) (fun _ _ _ h => h) (Or.inl ⟨by rfl, ?_⟩) hHeld ?_ ?_
           rotate_left
           ·rintro w' ⟨s0, s1, s2⟩
            go_simp
            with_reducible rfl
           rotate_left
           ·simp only [Act.put, s1c_, s2c_, s3c_, i64_w, i32_w]
            rfl
           refine pure_ (i := 10) (N := some 36) (v := ?_) (a' := ?_) (bsc_ 15 2047) rfl rfl (any_of HT_.out (by kernel_rfl)) (fun _ _ _ h => h) (Or.inl ⟨by rfl, ?_⟩) ?_ ?_
           rotate_left
           ·intro w'
            go_simp
            with_reducible rfl
           rotate_left
           ·simp only [Act.put, s1c_, s2c_, s3c_, i64_w, i32_w]
            rfl
           refine pure_ (i := 11) (N := some 37) (v := ?_) (a' := ?_) (bsc_ 15 4095) rfl rfl (any_of HT_.out (by kernel_rfl)) (fun _ _ _ h => h) (Or.inl ⟨by rfl, ?_⟩) ?_ ?_
           rotate_left
           ·intro w'
            go_simp
            with_reducible rfl
           rotate_left
           ·simp only [Act.put, s1c_, s2c_, s3c_, i64_w, i32_w]
            rfl
           refine pure_ (i := 12) (N := some 38) (v := ?_) (a' := ?_) (bsc_ 15 8191) rfl rfl (any_of HT_.out (by kernel_rfl)) (fun _ _ _ h => h) (Or.inl ⟨by rfl, ?_⟩) ?_ ?_
           rotate_left
           ·intro w'
            go_simp
            with_reducible rfl
           rotate_left
           ·simp only [Act.put, s1c_, s2c_, s3c_, i64_w, i32_w]
            rfl
           refine pure_ (i := 13) (N := some 39) (v := ?_) (a' := ?_) (bsc_ 15 16383) rfl rfl (any_of HT_.out (by kernel_rfl)) (fun _ _ _ h => h) (Or.inl ⟨by rfl, ?_⟩) ?_ ?_
           rotate_left
           ·intro w'
            go_simp
            with_reducible rfl
           rotate_left
           ·simp only [Act.put, s1c_, s2c_, s3c_, i64_w, i32_w]
            rfl
           refine last_ (i := 14) (N := none) (bsc_ 15 32767) rfl rfl (one_of HT_.out (by kernel_rfl)) (by decide) (fun K hK => ?_)
           refine skip_ (w1 := ?_) (by rfl) rfl ?_ ?_
           rotate_left
           ·go_simp
            rfl
           refine hK.out _ _ ?_
           clear hK K
           refine done_ (done_of HT_.out (by kernel_rfl)) ?_
           try go_wp2
           go_roundg k1
           case measure => have := HK1.out;omega
           case rel => exact ⟨(wrap64 (x22_1 + 1)), (x1001_1), (x1002_1), (y159), (.slice (some ⟨go51, 0, none⟩) x141002_1.length co51), (by first |rfl|(simp;done)|(simp [*];done)), H', ⟨by have := HK1.out;omega⟩, ⟨by (with_reducible repeat (first|apply z8c|apply z9c|apply y1c));exact HQ53.out⟩, ⟨by (with_reducible repeat (first|refine z1c ?_ _|refine z3c ?_|refine z2c ?_ _));refine x8c ?_ (by have h_ := Kd.R_ne Ha_.out BK128.out (by decide);intro e_;exact h_ (by rw [e_];rfl)) _;(with_reducible repeat (first|refine z1c ?_ _|refine z3c ?_|refine z2c ?_ _));exact BK128.out⟩, ⟨by (with_reducible repeat (first|refine z1c ?_ _|refine z3c ?_|refine z2c ?_ _));refine x8c ?_ (by have h_ := Kd.R_ne Ha_.out BK140.out (by decide);intro e_;exact h_ (by rw [e_];rfl)) _;(with_reducible repeat (first|refine z1c ?_ _|refine z3c ?_|refine z2c ?_ _));exact BK140.out⟩, ⟨by repeat (first|(with_reducible first|exact HI0.out|apply IsS78.alloc|apply IsS78.drewN|apply IsS78.drew|apply IsS78.set_1|apply IsS78.set_2|refine IsS78.far ?_ HN0_go51.out _|refine IsS78.far ?_ NB0_128.out _|refine IsS78.far ?_ NB0_140.out _)|exact HI0.out)⟩, ⟨by repeat (first|(with_reducible first|exact HK.out|apply KeepBut.set_|apply keep_drewN|apply keep_drew|apply keep_alloc|refine keep_far ?_ GB51.out _|refine keep_far ?_ GW128.out _|refine keep_far ?_ GW140.out _)|exact HK.out)⟩, ⟨by repeat (first|(with_reducible first|exact HB.out|apply z4c|apply z5c|apply z6c|refine z7c ?_ (Nat.le_trans HL.out GB51.out)|refine z7c ?_ (IsS78.ge HI0.out)|refine z7c ?_ GE128.out|refine z7c ?_ GE140.out)|exact HB.out)⟩⟩
          ·rw [if_neg c50] at H
           exact absurd H (by simp)
         ·rw [if_neg c49] at H
          exact absurd H (by simp)
   ·rw [if_neg c18] at H
    have c18b0 : decide (x22_1 < (t137.length : Int)) = false := decide_eq_false c18
    clear c18
    simp only [Option.some.injEq, Prod.mk.injEq] at H
    obtain ⟨rfl, rfl, rfl, rfl, rfl⟩ := H
    have hnb54 := NB140_128.out
    have hnc54 := NB128_140.out
    have hnb55 := NB140_0.out
    have hnc55 := NB0_140.out
    have hcz56_0 : wr.cell? ⟨gb140, 0, none⟩ = some (.int .i64 t135) := (x3c BK140.out 0).trans rfl
    have hcz56_1 : wr.cell? ⟨gb140, 1, none⟩ = some (.int .i64 t136) := (x3c BK140.out 1).trans rfl
    have hcz56_2 : wr.cell? ⟨gb140, 2, none⟩ = some (u141002) := (x3c BK140.out 2).trans rfl
    have hfz56_0 := x2c BK140.out 0
    have hfz56_1 := x2c BK140.out 1
    have hfz56_2 := x2c BK140.out 2
    have hnb57 := NB128_0.out
    have hnc57 := NB0_128.out
    have hcz58_0 : wr.cell? ⟨gb128, 0, none⟩ = some (.int .i64 0) := (x3c BK128.out 0).trans rfl
    have hcz58_1 : wr.cell? ⟨gb128, 1, none⟩ = some (.int .i64 0) := (x3c BK128.out 1).trans rfl
    have hcz58_2 : wr.cell? ⟨gb128, 2, none⟩ = some (.slice none 0 0) := (x3c BK128.out 2).trans rfl
    have hfz58_0 := x2c BK128.out 0
    have hfz58_1 := x2c BK128.out 1
    have hfz58_2 := x2c BK128.out 2
    obtain ⟨Ao59, co59, eo59⟩ := Kd.R_slice Ha_.out
    subst eo59
    go_wp2
    refine bodyPost_ret (results_cell_row rfl _ _ gb128 31 #[.int .i64 t135, .int .i64 t136, .slice Ao59 x141002_1.length co59] (0, 0) _ rfl (by (with_reducible repeat (first|refine z1c ?_ _|refine z3c ?_|refine z2c ?_ _));refine blk_put (cs := #[.int .i64 t135, .int .i64 t136, .slice none 0 0]) ?_ 2 _ rfl;(with_reducible repeat (first|refine z1c ?_ _|refine z3c ?_|refine z2c ?_ _));refine blk_put (cs := #[.int .i64 t135, .int .i64 0, .slice none 0 0]) ?_ 1 _ rfl;(with_reducible repeat (first|refine z1c ?_ _|refine z3c ?_|refine z2c ?_ _));refine blk_put (cs := #[.int .i64 0, .int .i64 0, .slice none 0 0]) ?_ 0 _ rfl;(with_reducible repeat (first|refine z1c ?_ _|refine z3c ?_|refine z2c ?_ _));exact BK128.out) Try.underlying31 rfl (by kernel_rfl)) rfl ?_
    exact ⟨_, by first |rfl|(simp [errW_none, errW_some] <;> rfl)|(simp [*, errW_none, errW_some] <;> rfl), by (with_reducible repeat (first|apply z8c|apply z9c|apply y1c));exact Kd.R_mono (Kd.R_far (p := ⟨gb128, 2, none⟩) (Kd.R_far (p := ⟨gb128, 1, none⟩) (Kd.R_far (p := ⟨gb128, 0, none⟩) (Kd.R_types Ha_.out BK128.out (by decide)) (fun _ hk => hk.2) (.int .i64 t135)) (fun _ hk => hk.2) (.int .i64 t136)) (fun _ hk => hk.2) (.slice Ao59 x141002_1.length co59)) (fun _ hk => trivial), by repeat (first|(with_reducible first|exact HI0.out|apply IsS78.alloc|apply IsS78.drewN|apply IsS78.drew|apply IsS78.set_1|apply IsS78.set_2|refine IsS78.far ?_ NB0_128.out _|refine IsS78.far ?_ NB0_140.out _)|exact HI0.out), by repeat (first|(with_reducible first|exact HB.out|apply z4c|apply z5c|apply z6c|refine z7c ?_ (IsS78.ge HI0.out)|refine z7c ?_ GE128.out|refine z7c ?_ GE140.out)|exact HB.out), by repeat (first|(with_reducible first|exact HK.out|apply KeepBut.set_|apply keep_drewN|apply keep_drew|apply keep_alloc|refine keep_far ?_ GW128.out _|refine keep_far ?_ GW140.out _)|exact HK.out)⟩

end Go.Proofs.Ytnohdgbfgdnpfaa.PFnCausal
