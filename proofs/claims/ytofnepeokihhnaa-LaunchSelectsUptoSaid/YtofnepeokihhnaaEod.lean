/- Statements that draw their order, taken operation by operation: what only reads its frame may stand anywhere, all else in every order that may come up. No conditions. -/
import Derived.Test.YtofnepeokihhnaaEnw
namespace Go.Proofs.Ytofnepeokihhnaa
open Go.RowKit
set_option linter.unusedVariables false
set_option linter.unusedSimpArgs false
section
variable {T : Tys} {P : Program} {n : Nat} {ops : Array Oper} {Q : Exit → Act → World → Prop} {L L' : Fr} {w w' w0 : World} {rest : List Oper} {ty t t' : TypeId} {tr tr2 : OTree} {k k2 : Nat}
  {Sx : Nat → Prop} {H : List (Nat × Obj)} {pos : String} {af : Array Edge} {g : Option (Nat × Bool)} {K : Act → World → Prop}
structure MT (P : Program) (n : Nat) (ops : Array Oper) (K : Act → World → Prop) (tr : OTree) (L : Fr) (w : World) : Prop where
  run : ∀ a, Fits n L a → wpTree P ops (fun _ => True) K tr a w
theorem W_mixT {id : Nat} {l : List Oper} (tr : OTree) (hT : T.Ok P) (hB : lexTB .any l.toArray tr = true) (hSt : St w0 Sx H w)
    (h : ∀ w1, St w0 Sx H w1 → MT P n l.toArray (fun a' w' => wpList P l.toArray (fun e a w => (∀ c, e ≠ .panic c) ∧ Q e a w) (l.drop tr.depth) a' w') tr L w1) : W P n (.region id l.toArray true) Q L w :=
  ⟨fun a ha => wp_region_mix tr hT.mixed hB ((h _ hSt.drew).run a ha)⟩
theorem MT_ev {d : Nat} {op : Op} {v : Value} (h0 : ops[k]? = some ⟨some d, op, ty, pos, af, g⟩) (hg : wantB ops g L = some true) (hn : Nat.blt d n = true) (h : ∀ w', Ev P L op ty w' v w') (k1 : MT P n ops K tr ((d, v) :: L) w) : MT P n ops K (.op k (some false) tr) L w := by
  refine ⟨fun a ha => ⟨_, v, h0, .inl ⟨wantB_spec (o := ⟨some d, op, ty, pos, af, g⟩) hg ha, fun w' _ => (h w').run n a ha _ _ _ _⟩, trivial, k1.run _ (ha.put hn v)⟩⟩
def TK (P : Program) (ops : Array Oper) (K : Act → World → Prop) (tr : OTree) : Exit → Act → World → Prop := fun e a' w' => e = .normal ∧ True ∧ wpTree P ops (fun _ => True) K tr a' w'
theorem MT_one {o : Oper} (h0 : ops[k]? = some o) (h : WL P n ops (TK P ops K tr) [o] L w) : MT P n ops K (.op k (some true) tr) L w := ⟨fun a ha => ⟨o, h0, h.run a ha⟩⟩
theorem MT_fork (h1 : MT P n ops K (.op k (some true) tr) L w) (h2 : MT P n ops K (.op k2 (some true) tr2) L w) : MT P n ops K (.fork k tr k2 tr2) L w := ⟨fun a ha => ⟨h1.run a ha, h2.run a ha⟩⟩
theorem At_oneT (h : MT P n ops K tr L w) : At n (TK P ops K tr) .normal L w := ⟨fun a ha => ⟨rfl, trivial, h.run a ha⟩⟩
theorem MT_end {Q' : Exit → Act → World → Prop} {l : List Oper} (h : WL P n ops Q' l L w) : MT P n ops (fun a' w' => wpList P ops Q' l a' w') .done L w := ⟨fun a ha => h.run a ha⟩
end
end Go.Proofs.Ytofnepeokihhnaa
