/- Short names for lemmas that the printed texts name often. -/
import Derived.Test.YtdgempbldhdihaaDoorWWords
import Derived.Test.YtdgempbldhdihaaDoorWLast
import Derived.Test.YtdgempbldhdihaaDoorWMore
namespace Go.Proofs.YtdgempbldhdihaaDoor.Short
open Go.RowKit Go.Proofs.YtdgempbldhdihaaDoorW.PrintWords Go.Proofs.YtdgempbldhdihaaDoorW.PrintLast Go.Proofs.YtdgempbldhdihaaDoorW.PrintMore
theorem qa : ∀ {w : Go.World} {g : Nat} {o : Go.Obj}, w.heap[g]? = Option.some o → ∀ (n : Nat), (w.drewN n).heap[g]? = Option.some o := @blk_drewN
theorem qb : ∀ {w : Go.World} {g : Nat} {o : Go.Obj}, w.heap[g]? = Option.some o → w.drew.heap[g]? = Option.some o := @blk_drew
theorem qc : ∀ {w : Go.World} {g : Nat} {o : Go.Obj}, w.heap[g]? = Option.some o → ∀ (o' : Go.Obj), (w.alloc o').heap[g]? = Option.some o := @blk_alloc
theorem qd : ∀ {w : Go.World} {g : Nat} {t : Go.TypeId} {cs : Array Go.Value}, w.heap[g]? = Option.some (Go.Obj.cells cs t) → ∀ (i : Nat), w.cell? { block := g, off := i } = cs[i]? := @blk_cell
theorem qe : ∀ {w w1 : Go.World} {g : Nat} {o : Go.Obj} {row : Option Nat}, w.heap[g]? = Option.some o → w.grownBy w1 row → Option.some g ≠ row → w1.heap[g]? = Option.some o := @blk_grown
theorem qf : ∀ {w w1 : Go.World} {g : Nat} {o : Go.Obj}, w.heap[g]? = Option.some o → Go.RowKit.Below w.heap.size w w1 → w1.heap[g]? = Option.some o := @blk_below
theorem qg : ∀ {w W : Go.World} {g j : Nat} {v : Go.Value}, Go.RowKit.Below w.heap.size w W → w.heap.size ≤ g → Go.RowKit.Below w.heap.size w (W.setCell { block := g, off := j } v) := @below_set
theorem qh : ∀ {w W : Go.World}, Go.RowKit.Below w.heap.size w W → ∀ (o : Go.Obj), Go.RowKit.Below w.heap.size w (W.alloc o) := @below_alloc
theorem qi : ∀ {base : Nat} {w W : Go.World}, Go.RowKit.Below base w W → Go.RowKit.Below base w W.drew := @below_drew1
theorem qj : ∀ {B : Nat} {w W : Go.World}, Go.RowKit.Below B w W → ∀ (n : Nat), Go.RowKit.Below B w (W.drewN n) := @pw_below_drewN
theorem qk : ∀ {w W w2 : Go.World}, Go.RowKit.Below w.heap.size w W → Go.RowKit.Below W.heap.size W w2 → Go.RowKit.Below w.heap.size w w2 := @below_step
theorem ql : ∀ {w W : Go.World}, Go.RowKit.Below w.heap.size w W → w.heap.size ≤ W.heap.size := @below_size
theorem qm : ∀ {α : Type} {d : Go.Proofs.YtdgempbldhdihaaDoorW.PrintWords.Kd α} {e : Nat} {w : Go.World} {base : Nat} {ok : Nat → Prop} {v : Go.Value} {xs : List α}, d.R e w base ok v xs → ∀ (o : Go.Obj), d.R e (w.alloc o) base ok v xs := @Kd.R_alloc
theorem qn : ∀ {α : Type} {d : Go.Proofs.YtdgempbldhdihaaDoorW.PrintWords.Kd α} {e : Nat} {w : Go.World} {base : Nat} {ok : Nat → Prop} {v : Go.Value} {xs : List α}, d.R e w base ok v xs → ∀ (m : Nat), d.R e (w.drewN m) base ok v xs := @Kd.R_drewN
theorem qo : ∀ {α : Type} {d : Go.Proofs.YtdgempbldhdihaaDoorW.PrintWords.Kd α} {e : Nat} {w : Go.World} {base : Nat} {ok : Nat → Prop} {v : Go.Value} {xs : List α}, d.R e w base ok v xs → d.R e w.drew base ok v xs := @Kd.R_drew
theorem qp : ∀ {α : Type} {d : Go.Proofs.YtdgempbldhdihaaDoorW.PrintWords.Kd α} {e : Nat} {w : Go.World} {base : Nat} {ok ok' : Nat → Prop} {v : Go.Value} {xs : List α}, d.R e w base ok v xs → (∀ (k : Nat), ok k → ok' k) → d.R e w base ok' v xs := @Kd.R_mono
theorem qq : ∀ {α : Type} {d : Go.Proofs.YtdgempbldhdihaaDoorW.PrintWords.Kd α} {e : Nat} {w w1 : Go.World} {base : Nat} {ok : Nat → Prop} {v : Go.Value} {xs : List α}, d.R e w base ok v xs → ∀ {row : Option Nat}, w.grownBy w1 row → (∀ (k : Nat), ok k → Option.some k ≠ row) → d.R e w1 base ok v xs := @Kd.R_grown
theorem qr : ∀ {α : Type} {d : Go.Proofs.YtdgempbldhdihaaDoorW.PrintWords.Kd α} {e : Nat} {w : Go.World} {base : Nat} {ok : Nat → Prop} {v : Go.Value} {xs : List α}, d.R e w base ok v xs → ∀ {g t : Nat} {cells : Array Go.Value}, w.heap[g]? = Option.some (Go.Obj.cells cells t) → (∀ (q : Nat), q ∈ e :: d.E → q ≠ t) → d.R e w base (fun k => ok k ∧ k ≠ g) v xs := @Kd.R_types
theorem qs : ∀ {α : Type} {d : Go.Proofs.YtdgempbldhdihaaDoorW.PrintWords.Kd α} {e : Nat} {w : Go.World} {base : Nat} {ok : Nat → Prop} {v : Go.Value} {xs : List α}, d.R e w base ok v xs → ∀ {p : Go.Addr}, (∀ (k : Nat), ok k → k ≠ p.block) → ∀ (u : Go.Value), d.R e (w.setCell p u) base ok v xs := @Kd.R_far
theorem qt : ∀ {α : Type} {d : Go.Proofs.YtdgempbldhdihaaDoorW.PrintWords.Kd α} {w w1 : Go.World} {xs : List α} {A : Option Go.Addr} {n : Nat}, d.C w A n xs → Go.RowKit.Below w.heap.size w w1 → d.C w1 A n xs := @Kd.C_below
theorem qu : ∀ {α : Type} {d : Go.Proofs.YtdgempbldhdihaaDoorW.PrintWords.Kd α} {w : Go.World} {xs : List α} {A : Option Go.Addr} {n : Nat}, d.C w A n xs → ∀ (o : Go.Obj), d.C (w.alloc o) A n xs := @Kd.C_alloc
theorem qv : ∀ {α : Type} {d : Go.Proofs.YtdgempbldhdihaaDoorW.PrintWords.Kd α} {w : Go.World} {xs : List α} {A : Option Go.Addr} {n : Nat}, d.C w A n xs → ∀ (m : Nat), d.C (w.drewN m) A n xs := @Kd.C_drewN
theorem qw : ∀ {α : Type} {d : Go.Proofs.YtdgempbldhdihaaDoorW.PrintWords.Kd α} {w : Go.World} {xs : List α} {A : Option Go.Addr} {n : Nat}, d.C w A n xs → d.C w.drew A n xs := @Kd.C_drew
theorem qx : ∀ {α : Type} (l : List α) (i : Nat) (a : α), l.toArray.setIfInBounds i a = (l.set i a).toArray := @List.setIfInBounds_toArray
theorem qy : ∀ {α : Type} {x : α} {xs : List α} {a : α}, (x :: xs).set 0 a = a :: xs := @List.set_cons_zero
theorem qz : ∀ {α : Type} {x : α} {xs : List α} {i : Nat} {a : α}, (x :: xs).set (i + 1) a = x :: xs.set i a := @List.set_cons_succ
theorem qA : ∀ {p : Prop}, p → Go.Proofs.YtdgempbldhdihaaDoorW.PrintWords.Aside0 p := @Aside0.mk
end Go.Proofs.YtdgempbldhdihaaDoor.Short
