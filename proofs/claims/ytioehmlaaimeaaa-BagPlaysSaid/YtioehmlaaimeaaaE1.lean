/-
  Chapter 21: the chapter's examples.
-/
import Derived.Test.YtioehmlaaimeaaaB
namespace Go.Proofs.Ytioehmlaaimeaaa
open Go.RowKit

def exA : It := ⟨1, 2, ⟨#[97]⟩, 5⟩
def exB : It := ⟨2, 3, ⟨#[98]⟩, 4⟩

set_option maxRecDepth 100000 in
set_option maxHeartbeats 4000000 in
theorem examples_any (w : World) : Calls Try.prog 7 #[] w fun e w' => e = .returned (.bool true) ∧ Below w.heap.size w w' := by
  go_enter Try.func7, Try.ntmps7
  go_wp2_with fail
  refine (new_bad 0 w (by omega)).mono ?_
  rintro e w' ⟨rfl, rfl⟩
  go_wp2_with fail
  refine (bw_new 2 w w (Below.refl _ _) (by omega) (by omega)).mono ?_
  rintro e w1 ⟨b, rfl, h1⟩
  have H1 := hide h1
  clear h1
  go_wp2_with fail
  refine (bw_put exA H1.out (e := 0) (l' := [exA]) rfl rfl).mono ?_
  rintro e w2 ⟨rfl, h2⟩
  have H2 := hide h2
  clear h2 H1
  go_wp2_with fail
  refine (bw_put ⟨1, 8, ⟨#[97]⟩, 0⟩ H2.out (e := 1) (l' := [exA]) rfl rfl).mono ?_
  rintro e w3 ⟨rfl, h3⟩
  have H3 := hide h3
  clear h3 H2
  go_wp2_with fail
  refine (bw_copy 3 H3.out (e := 0) (l' := [exA, exA]) rfl rfl).mono ?_
  rintro e w4 ⟨rfl, h4⟩
  have H4 := hide h4
  clear h4 H3
  go_wp2_with fail
  refine (bw_copy 3 H4.out (e := 4) (l' := [exA, exA]) rfl rfl).mono ?_
  rintro e w5 ⟨rfl, h5⟩
  have H5 := hide h5
  clear h5 H4
  go_wp2_with fail
  refine (bw_take 0 H5.out (x := exA) (e := 0) (l' := [exA]) rfl rfl rfl).mono ?_
  rintro e w6 ⟨rfl, h6⟩
  have H6 := hide h6
  clear h6 H5
  go_wp2_with fail
  refine (bw_put exB H6.out (e := 0) (l' := [exA, exB]) rfl rfl).mono ?_
  rintro e w7 ⟨rfl, h7⟩
  have H7 := hide h7
  clear h7 H6
  go_wp2_with fail
  refine (bw_oldest H7.out (x := exB) (ok := true) rfl).mono ?_
  rintro e w8 ⟨rfl, h8⟩
  have H8 := hide (h8.push #[.int .i64 2, .int .i64 3, .string ⟨#[98]⟩, .int .u64 4] 33)
  clear h8 H7
  go_wp2_with fail
  refine (bw_last 0 H8.out (e := 0) (l' := [exB, exA]) rfl rfl).mono ?_
  rintro e w9 ⟨rfl, h9⟩
  have H9 := hide h9
  clear h9 H8
  go_wp2_with fail
  refine (bw_take 3 H9.out (x := exA) (e := 0) (l' := [exB]) rfl rfl rfl).mono ?_
  rintro e w10 ⟨rfl, h10⟩
  have H10 := hide (h10.push #[.int .i64 1, .int .i64 2, .string ⟨#[97]⟩, .int .u64 5] 33)
  clear h10 H9
  go_wp2_with fail
  refine (bw_take (-1) H10.out (x := It.z) (e := 1) (l' := [exB]) rfl rfl rfl).mono ?_
  rintro e w11 ⟨rfl, h11⟩
  have h12 := h11.push #[.int .i64 0, .int .i64 0, .string ⟨#[]⟩, .int .u64 0] 33
  have H12 := hide h12
  have kx := ((h11.kept (.tail _ (.head _))).cell 2).trans rfl
  have ky := ((h11.kept (.head _)).cell 2).trans rfl
  have lx := (h11.kept (.tail _ (.head _))).lt
  have ly := (h11.kept (.head _)).lt
  clear h11 H10 h12
  go_wp2_with fail
  refine (bw_len H12.out).mono ?_
  rintro e w12 ⟨rfl, rfl⟩
  go_wp2_with fail
  refine (bw_items H12.out).mono ?_
  rintro e w13 ⟨A, c, rfl, hr, h13⟩
  have B13 := hide h13.bel
  clear h13 hr H12
  go_wp2_with fail
  go_ret
  exact ⟨rfl, B13.out⟩

end Go.Proofs.Ytioehmlaaimeaaa
