import Derived.Test.YtihhkjhpicelgaaDoorPCrcTellsx1
import Derived.Test.YtihhkjhpicelgaaDoorMyPure
import Derived.Lib.SlBytesConst
namespace Go.Proofs.YtihhkjhpicelgaaDoor.My
open Go.RowKit Go.Proofs.YtihhkjhpicelgaaDoor.Plain Go.Proofs.YtihhkjhpicelgaaDoorW.PrintWords Go.Proofs.YtihhkjhpicelgaaDoorW.PrintLast Go.Proofs.YtihhkjhpicelgaaDoorW.PrintMore

theorem fold_step (r : Int) (l : List Int) (i : Nat) (h : i < l.length) : fold r (l.drop i) = fold (byt r (rd l i)) (l.drop (i + 1)) := by
  unfold fold
  rw [List.drop_eq_getElem_cons h, List.foldl_cons]
  congr 2
  simp [rd, h]
theorem add_calls (s : Int) (A1 : Option Addr) (c1 : Nat) (l1 : List Int) (w : World) (ht : ∀ i : Nat, i < 16 → w.cell? ⟨0, i, none⟩ = some (.int .u32 (T i)))
    (hr1 : Kd.C (Kd.int .u8) w A1 l1.length l1) (hc1 : l1.length ≤ c1) :
    Calls Tryd.prog 10 #[.int .u32 s, .slice A1 l1.length c1] w fun e w' => e = .returned (.int .u32 (addF s l1)) ∧ Drawn0 w w' := by
  have HR1 := Aside0.mk hr1
  have HC1 := Aside0.mk hc1
  have HT := Aside0.mk ht
  have hm := Kd.C_max hr1
  clear hr1 hc1 ht
  go_enter Tryd.func10, Tryd.ntmps10
  go_wp2
  go_loopg [5, 12] l1.length (fun kq v5 v12 w' => ∃ (r : Int) (i : Nat), v5 = .int .u32 r ∧ v12 = .int .i64 i ∧ i ≤ l1.length ∧ Aside0 (kq = l1.length - i ∧ fold (bits BinOp.xor IntKind.u32 IntKind.u32.max s) l1 = fold r (l1.drop i)) ∧ Drawn0 w w')
  case atStart => exact ⟨_, 0, rfl, rfl, Nat.zero_le _, ⟨rfl, rfl⟩, Drawn0.refl _⟩
  case round =>
    obtain ⟨r, i, rfl, rfl, hi, HK, ⟨m1, rfl⟩⟩ := hrel
    by_cases hlt : i < l1.length
    · obtain ⟨ad, e, hx⟩ := Kd.at_int HR1.out (i : Int) (by omega) (by omega)
      cases e
      have HF := Aside0.mk (fold_step r l1 i hlt)
      simp only [Int.toNat_natCast] at hx
      generalize rd l1 ↑i = x at hx HF
      have b1 := (and15 (bits .xor .u32 r (x % 4294967296)))
      obtain ⟨b10, b11⟩ := b1
      have t1 := HT.out (bits .and .u32 (bits .xor .u32 r (x % 4294967296)) 15).toNat (by omega)
      have b2 := (and15 (nib (bits .xor .u32 r (x % 4294967296))))
      obtain ⟨b20, b21⟩ := b2
      have t2 := HT.out (bits .and .u32 (nib (bits .xor .u32 r (x % 4294967296))) 15).toNat (by omega)
      unfold nib at b20 b21 t2
      go_wp2
      go_roundg (gk - 1)
      case measure => have := HK.out; omega
      case rel =>
        refine ⟨_, i + 1, rfl, by go_num, by omega, ?_, by repeat (first | exact Drawn0.refl _ | apply Drawn0.step)⟩
        refine Aside0.mk ⟨by have := HK.out; omega, ?_⟩
        rw [HK.out.2, HF.out]
        rfl
    · go_wp2
      go_ret
      refine ⟨?_, by repeat (first | exact Drawn0.refl _ | apply Drawn0.step)⟩
      obtain rfl : i = l1.length := by omega
      unfold addF
      rw [HK.out.2, List.drop_length]
      rfl
/-- The table's cells hold what start-up laid. -/
def TabW (w : World) : Prop := 0 < w.heap.size ∧ ∀ i : Nat, i < 16 → w.cell? ⟨0, i, none⟩ = some (.int .u32 (T i))
theorem TabW.below {w w1 : World} (h : TabW w) (hb : Below w.heap.size w w1) : TabW w1 :=
  ⟨Nat.lt_of_lt_of_le h.1 hb.size, fun i hi => (hb.cell (p := ⟨0, i, none⟩) h.1).trans (h.2 i hi)⟩
theorem TabW.drawn {w w1 : World} (h : TabW w) (hb : Drawn0 w w1) : TabW w1 := h.below hb.below

theorem TabW.drewN {w : World} (h : TabW w) (n : Nat) : TabW (w.drewN n) := h.drawn ⟨⟨n, rfl⟩⟩

theorem of_calls (A1 : Option Addr) (c1 : Nat) (l1 : List Int) (w : World) (ht : TabW w)
    (hr1 : Kd.C (Kd.int .u8) w A1 l1.length l1) (hc1 : l1.length ≤ c1) :
    Calls Tryd.prog 8 #[.slice A1 l1.length c1] w fun e w' => e = .returned (.int .u32 (addF 0 l1)) ∧ Drawn0 w w' := by
  have HR1 := Aside0.mk hr1
  have HC1 := Aside0.mk hc1
  have HT := Aside0.mk ht.2
  clear hr1 hc1 ht
  go_enter Tryd.func8, Tryd.ntmps8
  go_wp2_with (go_at_call 10; refine (add_calls _ _ _ _ _ HT.out HR1.out HC1.out).mono ?_; rintro e w' ⟨rfl, ⟨nd, rfl⟩⟩)
  go_ret
  exact ⟨rfl, by repeat (first | exact Drawn0.refl _ | apply Drawn0.step)⟩

theorem C_block (w : World) (g : Nat) (xs : List Int) (e : TypeId) (fr : Nat × Nat) (h : w.heap[g]? = some (.cells (nums .u8 xs).toArray e fr)) (hm : xs.length ≤ 9223372036854775807) :
    Kd.C (Kd.int .u8) w (some ⟨g, 0, none⟩) xs.length xs := by
  refine Kd.C_of_reads (d := 0) ⟨rfl, hm, fun _ => ⟨_, rfl, fun j hj => ?_⟩⟩
  rw [add_plain, World.cell?]
  simp [h, nums, hj]

theorem alloc_self (w : World) (o : Obj) : (w.alloc o).heap[w.heap.size]? = some o := by
  show (w.heap.push o)[w.heap.size]? = _
  simp
theorem alive_val : addF 0 [49, 50, 51, 52, 53, 54, 55, 56, 57] = 3421780262 := by decide +kernel

theorem alive_calls (w : World) (ht : TabW w) :
    Calls Tryd.prog 7 #[] w fun e w' => e = .returned (.bool true) ∧ Below w.heap.size w w' := by
  have HT := Aside0.mk ht
  clear ht
  have kc := fun (w : World) (C : Array Value) (n c : Nat) => Lib.run_convert_bytes_const (P := Tryd.prog) w 23 5 C n c Tryd.underlying23 Tryd.underlying5
  go_enter Tryd.func7, Tryd.ntmps7
  go_wp2_with fail
  refine (of_calls _ 9 [49, 50, 51, 52, 53, 54, 55, 56, 57] _ (HT.out.below (below_alloc (Below.refl _ _) _)) (C_block _ _ _ _ _ (alloc_self _ _) (by simp)) (by simp)).mono ?_
  rintro e w' ⟨rfl, ⟨nd, rfl⟩⟩
  rw [alive_val]
  go_wp2
  go_ret
  exact ⟨rfl, by repeat (first | exact Below.refl _ _ | apply pw_below_drewN | apply below_alloc)⟩
end Go.Proofs.YtihhkjhpicelgaaDoor.My
