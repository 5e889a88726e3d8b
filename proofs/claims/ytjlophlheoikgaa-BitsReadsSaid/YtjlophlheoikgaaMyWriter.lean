/- The walks of bits.Writer. -/
import Derived.Test.YtjlophlheoikgaaMyBytes
import Derived.Deep.RegionLaw
import Derived.RegionTactic
namespace Go.Proofs.Ytjlophlheoikgaa.My
open Go.RowKit Go.Proofs.YtjlophlheoikgaaW.PrintWords Go.Proofs.YtjlophlheoikgaaW.PrintLast Go.Proofs.YtjlophlheoikgaaW.PrintMore

/-- A writer at a block: its text's slice, the text, what is held, how many bits that is. -/
structure Wr (w : World) (B g : Nat) (v : Value) (t : List Int) (h m : Nat) : Prop where
  blk : w.heap[g]? = some (.cells #[v, .int .u64 h, .int .i64 m] 66 (0, 0))
  row : w.ownsRow B 5 1 v t.length (nums .u8 t)
  bg : B ≤ g
/-- What a call on a writer has turned: its block, its text's row. -/
structure Grew (w w' : World) (g : Nat) (v v' : Value) : Prop where
  os : w'.os = w.os
  tape : w'.tape = w.tape
  output : w'.output = w.output
  keep : KeepBut w w' g v.ownBlock
  at_ : v'.ownBlock = v.ownBlock ∨ ∃ b, v'.ownBlock = some b ∧ w.heap.size ≤ b
theorem Grew.refl (w : World) (g : Nat) (v : Value) : Grew w w g v v := ⟨rfl, rfl, rfl, KeepBut.refl _ _ _, .inl rfl⟩
theorem Grew.trans {w w1 w2 : World} {g : Nat} {v v1 v2 : Value} (h : Grew w w1 g v v1) (k : Grew w1 w2 g v1 v2) : Grew w w2 g v v2 :=
  ⟨k.os.trans h.os, k.tape.trans h.tape, k.output.trans h.output, h.keep.trans k.keep h.at_, by
    rcases k.at_ with e | ⟨b, e, hb⟩
    · rw [e]; exact h.at_
    · exact .inr ⟨b, e, Nat.le_trans h.keep.1 hb⟩⟩
theorem Grew.drewN {w w1 : World} {g : Nat} {v v1 : Value} (h : Grew w w1 g v v1) (n : Nat) : Grew w (w1.drewN n) g v v1 := ⟨h.os, h.tape, h.output, ⟨h.keep.1, h.keep.2⟩, h.at_⟩
theorem Grew.cut {w w1 : World} {g : Nat} {v v1 : Value} (h : Grew w.drew w1 g v v1) : Grew w w1 g v v1 := ⟨h.os, h.tape, h.output, ⟨h.keep.1, h.keep.2⟩, h.at_⟩
theorem Grew.drew {w w1 : World} {g : Nat} {v v1 : Value} (h : Grew w w1 g v v1) : Grew w w1.drew g v v1 := ⟨h.os, h.tape, h.output, ⟨h.keep.1, h.keep.2⟩, h.at_⟩
theorem Grew.set {w w1 : World} {g : Nat} {v v1 : Value} (h : Grew w w1 g v v1) (j : Nat) (u : Value) : Grew w (w1.setCell ⟨g, j, none⟩ u) g v v1 := ⟨h.os, h.tape, h.output, h.keep.set_ j u, h.at_⟩
theorem Wr.drewN {w : World} {B g : Nat} {v : Value} {t : List Int} {h m : Nat} (k : Wr w B g v t h m) (n : Nat) : Wr (w.drewN n) B g v t h m := ⟨k.blk, pw_own_below k.row (pw_below_drewN (Below.refl _ _) n), k.bg⟩
theorem Wr.drew {w : World} {B g : Nat} {v : Value} {t : List Int} {h m : Nat} (k : Wr w B g v t h m) : Wr w.drew B g v t h m := ⟨k.blk, pw_own_below k.row (below_drew (Below.refl _ _)), k.bg⟩
theorem Wr.ne {w : World} {B g : Nat} {v : Value} {t : List Int} {h m : Nat} (k : Wr w B g v t h m) : some g ≠ v.ownBlock := own_ne k.row k.blk (by decide)
/-- held and many are written. -/
theorem Wr.set1 {w : World} {B g : Nat} {v : Value} {t : List Int} {h m : Nat} (k : Wr w B g v t h m) (h' : Nat) : Wr (w.setCell ⟨g, 1, none⟩ (.int .u64 h')) B g v t h' m :=
  ⟨by have := blk_set k.blk 1 (.int .u64 h'); simpa using this, own_setCell k.row k.ne _, k.bg⟩
theorem Wr.set2 {w : World} {B g : Nat} {v : Value} {t : List Int} {h m : Nat} (k : Wr w B g v t h m) (m' : Nat) : Wr (w.setCell ⟨g, 2, none⟩ (.int .i64 m')) B g v t h m' :=
  ⟨by have := blk_set k.blk 2 (.int .i64 m'); simpa using this, own_setCell k.row k.ne _, k.bg⟩
end Go.Proofs.Ytjlophlheoikgaa.My
