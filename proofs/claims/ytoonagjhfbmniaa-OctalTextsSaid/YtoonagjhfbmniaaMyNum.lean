/- The walks of crossdocknum's Num and Bytes. -/
import Derived.Test.YtoonagjhfbmniaaMyBytes
namespace Go.Proofs.Ytoonagjhfbmniaa.My
open Go.RowKit Go.Proofs.YtoonagjhfbmniaaW.PrintWords Go.Proofs.YtoonagjhfbmniaaW.PrintLast Go.Proofs.YtoonagjhfbmniaaW.PrintMore

def numE : Option Int → Int
  | none => 0
  | some c => c
theorem num_calls (e : Option Int) (w : World) (h : ∀ c, e = some c → c ≠ 0) : Calls Try.prog 9 #[errV e] w fun r w' => r = .returned (.int .i64 (numE e)) ∧ w = w' := by
  cases e with
  | none =>
    show Calls Try.prog 9 #[.nilIface] w _
    go_enter Try.func9, Try.ntmps9
    go_wp2
    go_ret
    exact ⟨rfl, rfl⟩
  | some c =>
    have h1 : (c == 0) = false := beq_eq_false_iff_ne.2 (h c rfl)
    have h2 : (c != 0) = true := bne_iff_ne.2 (h c rfl)
    have hta : ∀ (v : Value) (W : World), (Instr.typeAssert (.iface 38 v) 28 38 true).run Try.prog W = .ok (.tuple #[v, .bool true]) W := fun v W => by rfl
    clear h
    show Calls Try.prog 9 #[.iface 38 (.int .i64 c)] w _
    have u1 := Try.underlying28
    have u2 := Try.underlying38
    go_enter Try.func9, Try.ntmps9
    go_wp2
    go_ret
    exact ⟨rfl, rfl⟩
def Byts (l : List Int) : Prop := ∀ x ∈ l, 0 ≤ x ∧ x < 256
/-- The text of byte values. -/
def byts (l : List Int) : List UInt8 := l.map fun n => UInt8.ofNat n.toNat
theorem str_toList (l : List Int) : (strOfNums l).toList = byts l := by rw [ByteArray.toList_eq]; rfl
theorem byts_inj {a b : List Int} (ha : Byts a) (hb : Byts b) (h1 : byts a = byts b) : a = b := by
  have hi : ∀ (x y : Int), 0 ≤ x ∧ x < 256 → 0 ≤ y ∧ y < 256 → UInt8.ofNat x.toNat = UInt8.ofNat y.toNat → x = y := by
    intro x y hx hy he
    have := congrArg UInt8.toNat he
    simp only [UInt8.toNat_ofNat'] at this
    omega
  unfold byts at h1
  induction a generalizing b with
  | nil => cases b with
    | nil => rfl
    | cons y b => simp at h1
  | cons x a ih =>
    cases b with
    | nil => simp at h1
    | cons y b =>
      simp only [List.map_cons, List.cons.injEq] at h1
      rw [hi x y (ha x (by simp)) (hb y (by simp)) h1.1, ih (fun z hz => ha z (by simp [hz])) (fun z hz => hb z (by simp [hz])) h1.2]
theorem bytes_calls (A B : Option Addr) (n m c d : Nat) (xs ys : List Int) (w : World) (hx : (Kd.int .u8).C w A n xs) (hy : (Kd.int .u8).C w B m ys) :
    Calls Try.prog 10 #[.slice A n c, .slice B m d] w fun r w' => r = .returned (.bool (byts xs == byts ys)) ∧ w = w' := by
  have k1 := Kd.C_string (P := Try.prog) (src := 23) (dst := 9) (c := c) Try.underlying23 Try.underlying5 Try.underlying9 hx
  have k2 := Kd.C_string (P := Try.prog) (src := 23) (dst := 9) (c := d) Try.underlying23 Try.underlying5 Try.underlying9 hy
  rw [← str_toList, ← str_toList]
  generalize strOfNums xs = s at k1 ⊢
  generalize strOfNums ys = t at k2 ⊢
  clear hx hy
  go_enter Try.func10, Try.ntmps10
  go_wp2
  go_ret
  exact ⟨rfl, rfl⟩
/-- The same bytes: yes. -/
theorem bytes_yes (A B : Option Addr) (n m c d : Nat) (xs : List Int) (w : World) (hx : (Kd.int .u8).C w A n xs) (hy : (Kd.int .u8).C w B m xs) :
    Calls Try.prog 10 #[.slice A n c, .slice B m d] w fun r w' => r = .returned (.bool true) ∧ w = w' :=
  (bytes_calls A B n m c d xs xs w hx hy).mono fun _ _ ⟨h1, h2⟩ => ⟨by rw [h1]; simp, h2⟩
end Go.Proofs.Ytoonagjhfbmniaa.My
