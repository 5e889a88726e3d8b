/- utf.four: an escape by its number. -/
import Derived.Test.YtojhbioljpamhaaDoorMyBld
import Derived.LoopN
import Derived.Laws.BitsAllLaws
import Derived.Laws.ShiftsVarLaws
namespace Go.Proofs.YtojhbioljpamhaaDoor.My
open Go.RowKit Go.Proofs.YtojhbioljpamhaaDoorW.PrintWords Go.Proofs.YtojhbioljpamhaaDoorW.PrintLast Go.Proofs.YtojhbioljpamhaaDoorW.PrintMore
set_option maxRecDepth 100000
set_option linter.unusedVariables false
set_option linter.unusedSimpArgs false

def fig (n : Int) : Int := if n < 10 then 48 + n else 87 + n
def fourB (x : Int) : List Int := [92, 117, fig (x / 4096 % 16), fig (x / 256 % 16), fig (x / 16 % 16), fig (x % 16)]
theorem wrote_wrote (g o : Nat) (cs : Array Value) (u v : Value) : wrote g o (wrote g o cs u) v = wrote g o cs v := by
  unfold wrote
  apply Array.ext_getElem?
  intro i
  simp only [Array.getElem?_setIfInBounds, Array.size_setIfInBounds]
  repeat' split
  all_goals first | rfl | omega | skip
theorem i32_and15 (y : Int) (h0 : 0 ≤ y) (h1 : y < 2147483648) : bits .and .i32 y 15 = y % 16 := by
  obtain ⟨a, rfl⟩ := Int.eq_ofNat_of_zero_le h0
  have e1 : (BitVec.ofInt 32 (a : Int)).toNat = a := by
    rw [BitVec.ofInt_natCast, BitVec.toNat_ofNat]; exact Nat.mod_eq_of_lt (by omega)
  have e2 : (BitVec.ofInt 32 15).toNat = 15 := by decide
  show IntKind.i32.wrap ((BitVec.ofInt 32 (a : Int) &&& BitVec.ofInt 32 15).toNat : Int) = _
  rw [BitVec.toNat_and, e1, e2, show (15 : Nat) = 2 ^ 4 - 1 from rfl, Nat.and_two_pow_sub_one_eq_mod, IntKind.wrap_i32]
  omega
abbrev lower : ByteArray := ⟨#[48, 49, 50, 51, 52, 53, 54, 55, 56, 57, 97, 98, 99, 100, 101, 102]⟩
theorem lower_at (y : Int) (h0 : 0 ≤ y) (h1 : y < 16) (h : y.toNat < lower.size) : (((lower[y.toNat]'h).toNat : Nat) : Int) = fig y := by
  have key : ∀ i : Fin 16, (((lower[i.1]'i.2).toNat : Nat) : Int) = fig (i.1 : Int) := by decide +kernel
  have := key ⟨y.toNat, by omega⟩
  rw [this]
  congr 1
  show ((y.toNat : Nat) : Int) = y
  omega
section
variable {B g o : Nat} {T : TypeId} {cs : Array Value} {v : Value} {bs : List Int}
theorem four_calls (x : Int) (w : World) (h : Bld w B g o T cs v bs) (hl : bs.length ≤ 500000000) (h0 : 0 ≤ x) (h1 : x < 65536) :
    Calls Tryd.prog 32 #[.pointer (some ⟨g, o, none⟩), .int .i32 x] w fun e w' => e = .returned (.tuple #[]) ∧ ∃ v', Bld w' B g o T (wrote g o cs v') v' (bs ++ fourB x) ∧ Kp B g w w' := by
  have H := Aside0.mk h
  clear h
  go_enter Tryd.func32, Tryd.ntmps32
  go_wp2_with fail
  refine (wstring_calls ⟨#[92, 117]⟩ w H.out (by omega) (by decide)).mono ?_
  rintro e w1 ⟨rfl, v1, hb1, hk1⟩
  have H1 := Aside0.mk (And.intro hb1 hk1)
  clear hb1 hk1
  go_wp2_with fail
  have m1 : 0 ≤ x / 4096 % 16 ∧ x / 4096 % 16 < 16 := by omega
  have m2 : 0 ≤ x / 256 % 16 ∧ x / 256 % 16 < 16 := by omega
  have m3 : 0 ≤ x / 16 % 16 ∧ x / 16 % 16 < 16 := by omega
  have m4 : 0 ≤ x % 16 ∧ x % 16 < 16 := by omega
  have e1 := i32_and15 (x / 4096) (by omega) (by omega)
  have e2 := i32_and15 (x / 256) (by omega) (by omega)
  have e3 := i32_and15 (x / 16) (by omega) (by omega)
  have e4 := i32_and15 x (by omega) (by omega)
  obtain ⟨y1, z1⟩ : ∃ y, y = x / 4096 % 16 := ⟨_, rfl⟩
  obtain ⟨y2, z2⟩ : ∃ y, y = x / 256 % 16 := ⟨_, rfl⟩
  obtain ⟨y3, z3⟩ : ∃ y, y = x / 16 % 16 := ⟨_, rfl⟩
  obtain ⟨y4, z4⟩ : ∃ y, y = x % 16 := ⟨_, rfl⟩
  rw [← z1] at m1 e1
  rw [← z2] at m2 e2
  rw [← z3] at m3 e3
  rw [← z4] at m4 e4
  have HY := Aside0.mk (And.intro z1 (And.intro z2 (And.intro z3 z4)))
  clear z1 z2 z3 z4
  obtain ⟨m10, m11⟩ := m1
  obtain ⟨m20, m21⟩ := m2
  obtain ⟨m30, m31⟩ := m3
  obtain ⟨m40, m41⟩ := m4
  refine wp_loop_rounds 5 ?_
  rw [rounds_succ]
  go_wp2_with fail
  refine (wbyte_calls _ w1 H1.out.1 (by have hz : (⟨#[92, 117]⟩ : ByteArray).size = 2 := rfl; simp [bytesOf_length]; omega)).mono ?_
  rintro e w2 ⟨rfl, v2, hb2, hk2⟩
  rw [lower_at y1 (by omega) (by omega), wrote_wrote] at hb2
  have H2 := Aside0.mk (And.intro hb2 (H1.out.2.trans hk2))
  clear hb2 hk2
  go_wp2_with fail
  rw [rounds_succ]
  go_wp2_with fail
  refine (wbyte_calls _ w2 H2.out.1 (by have hz : (⟨#[92, 117]⟩ : ByteArray).size = 2 := rfl; simp [bytesOf_length]; omega)).mono ?_
  rintro e w3 ⟨rfl, v3, hb3, hk3⟩
  rw [lower_at y2 (by omega) (by omega), wrote_wrote] at hb3
  have H3 := Aside0.mk (And.intro hb3 (H2.out.2.trans hk3))
  clear hb3 hk3
  go_wp2_with fail
  rw [rounds_succ]
  go_wp2_with fail
  refine (wbyte_calls _ w3 H3.out.1 (by have hz : (⟨#[92, 117]⟩ : ByteArray).size = 2 := rfl; simp [bytesOf_length]; omega)).mono ?_
  rintro e w4 ⟨rfl, v4, hb4, hk4⟩
  rw [lower_at y3 (by omega) (by omega), wrote_wrote] at hb4
  have H4 := Aside0.mk (And.intro hb4 (H3.out.2.trans hk4))
  clear hb4 hk4
  go_wp2_with fail
  rw [rounds_succ]
  go_wp2_with fail
  refine (wbyte_calls _ w4 H4.out.1 (by have hz : (⟨#[92, 117]⟩ : ByteArray).size = 2 := rfl; simp [bytesOf_length]; omega)).mono ?_
  rintro e w5 ⟨rfl, v5, hb5, hk5⟩
  rw [lower_at y4 (by omega) (by omega), wrote_wrote] at hb5
  have H5 := Aside0.mk (And.intro hb5 (H4.out.2.trans hk5))
  clear hb5 hk5
  go_wp2_with fail
  rw [rounds_succ]
  go_wp2_with fail
  go_end0
  refine ⟨rfl, v5, ?_, H5.out.2⟩
  have := H5.out.1
  simp only [List.append_assoc] at this
  rw [show fourB x = bytesOf ⟨#[92, 117]⟩ ++ ([fig y1] ++ ([fig y2] ++ ([fig y3] ++ [fig y4]))) from by rw [HY.out.1, HY.out.2.1, HY.out.2.2.1, HY.out.2.2.2]; rfl]
  exact this
end
end Go.Proofs.YtojhbioljpamhaaDoor.My
