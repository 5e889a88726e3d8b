/- A slice of structs of layer 6, as it comes in: a Script. -/
import Derived.Test.YtjlophlheoikgaaMyBack6
import Derived.Test.YtjlophlheoikgaaMyArgs
import Derived.Lib.SmallJoins
import Derived.ChangeOld
namespace Go.Proofs.Ytjlophlheoikgaa.My
open Go.RowKit Go.ChangeShapes Go.WideShapes Go.ChangeAt Go.Proofs.YtjlophlheoikgaaW.PrintWords Go.Proofs.YtjlophlheoikgaaW.PrintLast Go.Proofs.YtjlophlheoikgaaW.PrintMore

theorem script_of_trod {H : Type} {enc : TypeId × Value → H} {W : World} {base fuel : Nat} {held : Bool} {v : Value} {x : DataW H × List MemPlace}
    (h : DataW.trod enc Try.prog W base (fun _ => true) held fuel 22 [v] = some x) : ∃ A cap l, v = .slice A l.length cap ∧ l.length ≤ cap ∧ Script W A l ∧ ∀ a ∈ l, ∃ zs, IsRow .u8 W a.A a.l a.c zs := by
  rcases DataW.trod_slice Try.underlying22 h with ⟨h0, _⟩ | ⟨ad, len, cap, elems, rest, n, _, h0, _, _, hl, _, hlen, hel, _, _⟩
  · simp only [List.cons.injEq, and_true] at h0
    exact ⟨none, 0, [], h0, Nat.le_refl _, ⟨fun i a h => by simp at h, fun a h => by simp at h⟩, fun a h => by simp at h⟩
  · simp only [List.cons.injEq, and_true] at h0
    have hc4 : Program.cellsOf Try.prog 29 = 4 := by kernel_rfl
    have each : ∀ i, i < len → ∃ a : Ac, W.cell? (ad.add (i * 4)) = some (.int .i64 a.k) ∧ W.cell? ⟨(ad.add (i * 4)).block, (ad.add (i * 4)).off + 1, none⟩ = some (.int .i64 a.n) ∧ W.cell? ⟨(ad.add (i * 4)).block, (ad.add (i * 4)).off + 2, none⟩ = some (.int .u32 a.x) ∧
        W.cell? ⟨(ad.add (i * 4)).block, (ad.add (i * 4)).off + 3, none⟩ = some (.slice a.A a.l a.c) ∧ a.x < 4294967296 ∧ ∃ zs, IsRow .u8 W a.A a.l a.c zs := by
      intro i hi
      obtain ⟨y, hy⟩ : ∃ y, elems[i]? = some y := ⟨_, List.getElem?_eq_getElem (by omega)⟩
      have hb := hel i hi
      rw [hy, Option.bind_eq_some_iff] at hb
      obtain ⟨cs, hcs, ht⟩ := hb
      rw [hc4] at hcs
      obtain ⟨_, hcl, hcc⟩ := World.cells?_some hcs
      obtain ⟨c0, c1, c2, c3, rfl⟩ : ∃ c0 c1 c2 c3, cs = [c0, c1, c2, c3] := by
        match cs, hcl with
        | [c0, c1, c2, c3], _ => exact ⟨c0, c1, c2, c3, rfl⟩
      have q0 := hcc 0 (by decide)
      have q1 := hcc 1 (by decide)
      have q2 := hcc 2 (by decide)
      have q3 := hcc 3 (by decide)
      obtain ⟨y0, y1, y2, y3, m, _, _, t0, t1, t2, t3⟩ := Joins.trod_struct4 Try.underlying29 ht
      have s1 : Program.cellsOf Try.prog 3 = 1 := by kernel_rfl
      have s2 : Program.cellsOf Try.prog 27 = 1 := by kernel_rfl
      have s3 : Program.cellsOf Try.prog 26 = 1 := by kernel_rfl
      simp only [s1, s2, s3, List.drop_zero, List.drop_succ_cons, List.take_succ_cons, List.take_zero] at t0 t1 t2 t3
      obtain ⟨kd, e0, _, _⟩ := DataW.trod_int Try.underlying3 t0
      obtain ⟨nn, e1, _, _⟩ := DataW.trod_int Try.underlying3 t1
      obtain ⟨xx, e2, _, w2⟩ := DataW.trod_int Try.underlying27 t2
      have hx := wf_u32 w2
      obtain ⟨xn, rfl⟩ := Int.eq_ofNat_of_zero_le hx.1
      obtain ⟨A3, l3, k3, zs, e3, w3⟩ : ∃ a len cap zs, c3 = .slice a len cap ∧ My.IsRow .u8 W a len cap zs := by
        rcases open_ints Try.underlying26 Try.underlying5 (by kernel_rfl) t3 with ⟨hcs, _⟩ | ⟨x, l, c, zs, hcs, _, hl, hm, hz, _, hcell, hwz⟩
        · simp only [List.cons.injEq, and_true] at hcs
          exact ⟨none, 0, 0, [], hcs, .inl ⟨rfl, rfl, rfl, rfl⟩⟩
        · simp only [List.cons.injEq, and_true] at hcs
          exact ⟨some x, l, c, zs, hcs, .inr ⟨_, rfl, hl, hm, by simpa using hz, hcell, hwz⟩⟩
      simp only [List.cons.injEq, and_true] at e0 e1 e2
      subst e0 e1 e2 e3
      refine ⟨⟨kd, nn, xn, A3, l3, k3⟩, ?_, ?_, ?_, ?_, by show xn < _; omega, zs, w3⟩
      · simpa [Addr.add] using q0
      · simpa [Addr.add] using q1
      · simpa [Addr.add] using q2
      · simpa [Addr.add] using q3
    obtain ⟨f, hf⟩ : ∃ f : Nat → Ac, ∀ i, i < len → W.cell? (ad.add (i * 4)) = some (.int .i64 (f i).k) ∧ W.cell? ⟨(ad.add (i * 4)).block, (ad.add (i * 4)).off + 1, none⟩ = some (.int .i64 (f i).n) ∧ W.cell? ⟨(ad.add (i * 4)).block, (ad.add (i * 4)).off + 2, none⟩ = some (.int .u32 (f i).x) ∧
        W.cell? ⟨(ad.add (i * 4)).block, (ad.add (i * 4)).off + 3, none⟩ = some (.slice (f i).A (f i).l (f i).c) ∧ (f i).x < 4294967296 ∧ ∃ zs, IsRow .u8 W (f i).A (f i).l (f i).c zs :=
      ⟨fun i => if hi : i < len then (each i hi).choose else ⟨0, 0, 0, none, 0, 0⟩, fun i hi => by simpa only [dif_pos hi] using (each i hi).choose_spec⟩
    have hll : ((List.range len).map f).length = len := by simp
    have hget : ∀ i a, ((List.range len).map f)[i]? = some a → i < len ∧ a = f i := by
      intro i a h
      have hi := (List.getElem?_eq_some_iff.1 h).1
      rw [hll] at hi
      rw [List.getElem?_map, List.getElem?_range hi] at h
      simp at h
      exact ⟨hi, h.symm⟩
    have hmem : ∀ a ∈ (List.range len).map f, ∃ i, i < len ∧ a = f i := by
      intro a h
      obtain ⟨i, hi, rfl⟩ := List.mem_map.1 h
      exact ⟨i, List.mem_range.1 hi, rfl⟩
    refine ⟨some ad, cap, (List.range len).map f, by rw [hll]; exact h0, by rw [hll]; exact hl, ⟨?_, ?_⟩, ?_⟩
    · intro i a h
      obtain ⟨hi, rfl⟩ := hget i a h
      obtain ⟨h1, h2, h3, h4, _⟩ := hf i hi
      exact ⟨ad, rfl, h1, h2, h3, h4⟩
    · intro a h
      obtain ⟨i, hi, rfl⟩ := hmem a h
      exact (hf i hi).2.2.2.2.1
    · intro a h
      obtain ⟨i, hi, rfl⟩ := hmem a h
      exact (hf i hi).2.2.2.2.2
theorem back_said (A : Option Addr) (cap : Nat) (l : List Ac) (W : World) (hc : l.length ≤ cap) (hs : Script W A l) (_ : ∀ a ∈ l, ∃ zs, IsRow .u8 W a.A a.l a.c zs) :
    Calls Try.prog 4 #[.slice A l.length cap] W fun e w' => e = .returned (.bool true) ∧ Below W.heap.size W w' := back_walk A cap l W hs hc
end Go.Proofs.Ytjlophlheoikgaa.My
