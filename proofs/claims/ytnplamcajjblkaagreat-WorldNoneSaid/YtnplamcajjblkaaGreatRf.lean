/-
  A range over a function: one law for the caller, where the iterator may write cells of its own between two rounds. Conditions: each lemma states its own.
-/
import Derived.RangeFuncNested
import Derived.RangeFuncBound
import Derived.RangeFuncCalls
import Derived.RangeFuncLeaves
import Derived.Shelf.Abstract
import Derived.OwnWalkIn
import Derived.TacticsInMore
import Derived.LoopNIn
import Derived.LoopIn
import Derived.Test.YtnplamcajjblkaaGreatWe
namespace Go.Proofs.YtnplamcajjblkaaGreat
open Go.RowKit

/-- The iterator g, with what it has captured: it turns blocks of U (and new ones), it hands each round x behind pre where G pre x; a round turns blocks of T, the loop's own record, and new ones; when all have come S holds, when a round has said 'no more' Sp. -/
def SeqG {α : Type} (n : Nat) (P : Program) (g : Nat) (lb : Array Value) (encs : α → Array Value) (U T : Nat → Prop) (G : List α → α → Prop) (S Sp : List α → World → Prop) (w : World) : Prop :=
  ∀ (l : Nat) (J Jx : List α → World → Prop) (W : World), Fr NoB w W → w.heap.size ≤ l → l < W.heap.size →
    (∀ pre A B, J pre A → Fr U A B → J pre B) → (∀ pre A B, Jx pre A → Fr U A B → Jx pre B) →
    (∀ pre x W1, J pre W1 → G pre x → W.heap.size ≤ W1.heap.size → YieldAt Fence.wide (n - 1) P l (encs x) W1 fun e W' =>
      (e = .returned (.bool true) ∧ J (pre ++ [x]) W' ∧ Fr (fun k => T k ∨ k = l) W1 W') ∨ (e = .returned (.bool false) ∧ Jx (pre ++ [x]) W' ∧ Fr (fun k => T k ∨ k = l) W1 W')) →
    J [] W →
    CallsIn Fence.wide n P g (#[.func (.yield l) #[] #[]] ++ lb) W fun e W' => (∃ v, e = .returned v) ∧ ((∃ xs, S xs W' ∧ J xs W') ∨ (∃ pre, Sp pre W' ∧ Jx pre W'))

/-- How a round may be left. -/
def postG {α : Type} (T : Nat → Prop) (I : List α → World → Prop) (Ix : Code → List α → World → Prop) (xs : List α) (W : World) : Exit → Act → World → Prop
  | .normal, _, W' => Fr T W W' ∧ I xs W'
  | .ret, _, W' => Fr T W W' ∧ Ix .ret xs W'
  | .exit id, _, W' => Fr T W W' ∧ Ix (.exit id) xs W'
  | .goto t, _, W' => Fr T W W' ∧ Ix (.goto t) xs W'
  | .panic _, _, _ => False
  | .outgrown, _, _ => False

theorem Fr.putObj {S : Nat → Prop} {a w : World} (h : Fr S a w) {r : Nat} (hr : S r ∨ a.heap.size ≤ r) (o : Obj) : Fr S a (w.putObj r o) :=
  ⟨h.os, h.tape, h.output, by simpa using h.size, fun i hi hn => (World.putObj_heap_other (by
    rintro rfl
    rcases hr with hr | hr
    · exact hn hr
    · omega)).trans (h.block i hi hn)⟩

theorem params_one (t : Array Value) (p : Tmp) (v : Value) : (#[p].zip #[v]).foldl (fun t (p, v) => t.setIfInBounds p v) t = t.setIfInBounds p v := by simp
theorem params_two (t : Array Value) (p q : Tmp) (v u : Value) : (#[p, q].zip #[v, u]).foldl (fun t (p, v) => t.setIfInBounds p v) t = (t.setIfInBounds p v).setIfInBounds q u := by simp

variable {n : Nat} {P : Program}

theorem wpIn_rangeFuncG {α : Type} {g : Operand} {ps : Array Tmp} {assign body : Code} {Q : Exit → Act → World → Prop} {a : Act} {w : World}
    {gf : Nat} {lb : Array Value} (hg : a.eval g = .func (.func gf) #[] lb) (eg : ∀ args w, (callFunc gf args).run P w = .ok (.enter gf args) w)
    {encs : α → Array Value} {U T : Nat → Prop} {G : List α → α → Prop} {S Sp : List α → World → Prop} (hseq : SeqG (n - 1) P gf lb encs U T G S Sp w) (hps : ∀ x, (encs x).size = ps.size)
    (I : List α → World → Prop) (Ix : Code → List α → World → Prop)
    (hI : ∀ pre A B, I pre A → Fr (fun k => U k ∨ k = w.heap.size ∨ k = w.heap.size + 1) A B → I pre B)
    (hIx : ∀ c pre A B, Ix c pre A → Fr (fun k => U k ∨ k = w.heap.size ∨ k = w.heap.size + 1) A B → Ix c pre B)
    (hU : ¬ U w.heap.size ∧ ¬ U (w.heap.size + 1)) (hT : ¬ T w.heap.size ∧ ¬ T (w.heap.size + 1))
    (h0 : I [] w) (Ax : α → Act → World → Prop) (hAx : ∀ x a' A B, Ax x a' A → Fr (fun k => k = w.heap.size + 1) A B → Ax x a' B)
    (hassign : ∀ (l : Nat) (x : α) (W : World) (K : Act → World → Prop), w.heap.size + 2 ≤ W.heap.size → (∀ a' W', Fr NoB W W' → Ax x a' W' → K a' W') →
      assign.wpIn (Fence.wide.inRound l) (n - 1 - 1) P (Exit.then K (fun _ _ _ => False)) { tmps := (ps.zip (encs x)).foldl (fun t (p, v) => t.setIfInBounds p v) a.tmps, defers := [] } W)
    (hbody : ∀ (pre : List α) (x : α) (W : World) (a' : Act), I pre W → G pre x → Ax x a' W → w.heap.size + 2 ≤ W.heap.size → body.wpIn (Fence.wide.inRound (w.heap.size + 1)) (n - 1 - 1) P (postG T I Ix (pre ++ [x]) W) a' W)
    (hdone : ∀ (xs : List α) (W : World), S xs W → I xs W → W.heap[w.heap.size]? = some (.deferred (some [])) → Q .normal { a with defers := { target := .collected w.heap.size, args := #[] } :: a.defers } W)
    (hstop : ∀ (c : Code) (pre : List α) (W : World), Sp pre W → Ix c pre W → W.heap[w.heap.size]? = some (.deferred (some [])) → c.wpIn Fence.wide n P Q { a with defers := { target := .collected w.heap.size, args := #[] } :: a.defers } W)
    (hSb : ∀ xs A B, S xs A → Fr (fun k => k = w.heap.size + 1) A B → S xs B) (hSpb : ∀ xs A B, Sp xs A → Fr (fun k => k = w.heap.size + 1) A B → Sp xs B) :
    (Code.rangeFunc g ps assign body).wpIn Fence.wide n P Q a w := by
  refine wpIn_rangeFunc ?_
  intro fn hfn
  obtain ⟨D, hD⟩ : ∃ D, D = w.heap.size := ⟨_, rfl⟩
  obtain ⟨rec, hrec⟩ : ∃ rec : LoopState → Option Code → Loop, rec = fun st pe => { state := st, pending := pe, fn, tmps := a.tmps, params := ps, assign, body, defers := D } := ⟨_, rfl⟩
  obtain ⟨W1, hW1⟩ : ∃ W1, (w.alloc (.deferred (some []))).alloc (.loop (rec .ready none)) = W1 := ⟨_, rfl⟩
  have hL1 : W1.heap[D + 1]? = some (.loop (rec .ready none)) := by
    rw [← hW1, hD]; have := World.alloc_heap_new (w.alloc (.deferred (some []))) (.loop (rec .ready none)); rwa [World.size_alloc] at this
  have hK1 : W1.heap[D]? = some (.deferred (some [])) := by
    rw [← hW1, hD]; exact (Below.heap_alloc _ _ _ (by simp)).trans (World.alloc_heap_new w _)
  have hF1 : Fr NoB w W1 := by rw [← hW1]; exact ((Fr.refl NoB w).alloc _).alloc _
  have hs1 : W1.heap.size = D + 2 := by rw [← hW1, hD]; simp
  have hI1 : I [] W1 := hI _ _ _ h0 (hF1.mono fun _ _ h => h.elim)
  rw [← hD] at hI hIx hU hT hbody hdone hstop hSb hSpb hAx hassign
  refine ⟨D + 1, [{ target := .collected D, args := #[] }], W1, { target := .fn (.func gf) lb, args := #[.func (.yield (D + 1)) #[] #[]] }, W1, gf,
    #[.func (.yield (D + 1)) #[] #[]] ++ lb, W1, ?_, ?_, fun _ _ => trivial, ?_, fun h => by simp [Fence.wide] at h, ?_⟩
  · rw [← hW1, hrec, hD]; exact run_enterLoop_outer _ _ _ _ _
  · simp only [resolve, hg]
    simp [go_sem]
  · simp [invoke, go_sem, eg]
  · have keep : ∀ {A B : World} {V : Nat → Prop} {k : Nat} {o : Obj}, Fr V A B → ¬ V k → A.heap[k]? = some o → B.heap[k]? = some o := fun hf hn h =>
      (hf.block _ (Array.getElem?_eq_some_iff.1 h).1 hn).trans h
    refine (hseq (D + 1)
      (fun pre W => I pre W ∧ W.heap[D + 1]? = some (.loop (rec .ready none)) ∧ W.heap[D]? = some (.deferred (some [])))
      (fun pre W => ∃ c, Ix c pre W ∧ W.heap[D + 1]? = some (.loop (rec .done (some c))) ∧ W.heap[D]? = some (.deferred (some [])))
      W1 hF1 (by omega) (by omega)
      (fun pre A B hs hf => ⟨hI _ _ _ hs.1 (hf.mono fun _ _ h => .inl h), keep hf hU.2 hs.2.1, keep hf hU.1 hs.2.2⟩)
      (fun pre A B hs hf => by
        obtain ⟨c, hc, hl, hk⟩ := hs
        exact ⟨c, hIx _ _ _ _ hc (hf.mono fun _ _ h => .inl h), keep hf hU.2 hl, keep hf hU.1 hk⟩)
      ?_ ⟨hI1, hL1, hK1⟩).mono ?_
    · rintro pre x W ⟨hi, hl, hk⟩ hG hsz
      have hlt : D + 1 < W.heap.size := (Array.getElem?_eq_some_iff.1 hl).1
      have hy := run_yield (P := P) (args := encs x) hl (by rw [hrec]; exact hps x)
      rw [hrec] at hy
      refine ⟨fn, _, assign, body, hy, roundIn_of_wpIn hfn (hassign _ x W _ (by omega) fun a' W' hfa hax => ?_)⟩
      have hl' := keep hfa id hl
      have hk' := keep hfa id hk
      have hsa := hfa.size
      have hlt' : D + 1 < W'.heap.size := by omega
      refine ⟨_, run_beginRound hl' (by rw [hrec]), ?_⟩
      obtain ⟨W2, hW2⟩ : ∃ W2, W'.putObj (D + 1) (.loop { rec .ready none with state := .busy }) = W2 := ⟨_, rfl⟩
      rw [hW2]
      have hl2 : W2.heap[D + 1]? = some (.loop { rec .ready none with state := .busy }) := by rw [← hW2]; exact World.putObj_heap_same hlt'
      have hk2 : W2.heap[D]? = some (.deferred (some [])) := by rw [← hW2]; exact (World.putObj_heap_other (by omega)).trans hk'
      have hF2' : Fr (fun k => k = D + 1) W' W2 := by rw [← hW2]; exact (Fr.refl (fun k => k = D + 1) W').putObj (r := D + 1) (.inl rfl) _
      have hF2 : Fr (fun k => k = D + 1) W W2 := (hfa.mono fun _ _ h => h.elim).trans hF2' fun _ _ h => h
      have hs2 := hF2.size
      refine wpIn_mono (hbody pre x W2 a' (hI _ _ _ hi (hF2.mono fun _ _ h => .inr (.inr h))) hG (hAx _ _ _ _ hax hF2') (by omega)) ?_
      have fin : ∀ (jump : Option Code) (W3 : World), Fr T W2 W3 → ∃ W4, (Instr.endRound (D + 1) jump).run P W3 = .ok (.bool jump.isNone) W4 ∧
          W4.heap[D + 1]? = some (.loop (rec (if jump.isNone then .ready else .done) jump)) ∧ W4.heap[D]? = some (.deferred (some [])) ∧
          Fr (fun k => k = D + 1) W3 W4 ∧ Fr (fun k => T k ∨ k = D + 1) W W4 := fun jump W3 hf3 => by
        have hl3 := keep hf3 hT.2 hl2
        have hk3 := keep hf3 hT.1 hk2
        have h3 := run_endRound (P := P) jump hl3
        have hF4 := (Fr.refl (fun k => k = D + 1) W3).putObj (r := D + 1) (.inl rfl) (.loop { ({ rec .ready none with state := .busy } : Loop) with state := if jump.isNone then .ready else .done, pending := jump })
        refine ⟨_, h3, ?_, (World.putObj_heap_other (by omega)).trans hk3, hF4, ?_⟩
        · rw [World.putObj_heap_same (Array.getElem?_eq_some_iff.1 hl3).1]; rw [hrec]
        · exact ((hF2.mono (S' := fun k => T k ∨ k = D + 1) fun _ _ h => .inr h).trans hf3 fun _ _ h => .inl h).trans hF4 fun _ _ h => .inr h
      have out : ∀ (c : Code) (W3 : World), Fr T W2 W3 → Ix c (pre ++ [x]) W3 → ∃ v W4, (Instr.endRound (D + 1) (some c)).run P W3 = .ok v W4 ∧ ((v = .bool true ∧ (I (pre ++ [x]) W4 ∧ W4.heap[D + 1]? = some (.loop (rec .ready none)) ∧ W4.heap[D]? = some (.deferred (some []))) ∧ Fr (fun k => T k ∨ k = D + 1) W W4) ∨
          (v = .bool false ∧ (∃ c, Ix c (pre ++ [x]) W4 ∧ W4.heap[D + 1]? = some (.loop (rec .done (some c))) ∧ W4.heap[D]? = some (.deferred (some []))) ∧ Fr (fun k => T k ∨ k = D + 1) W W4)) := fun c W3 hf hi3 => by
        obtain ⟨W4, hr, hl4, hk4, hF4, hFF⟩ := fin (some c) W3 hf
        exact ⟨_, W4, hr, .inr ⟨rfl, ⟨c, hIx _ _ _ _ hi3 (hF4.mono fun _ _ h => .inr (.inr h)), hl4, hk4⟩, hFF⟩⟩
      rintro e a3 W3 hp
      cases e with
      | normal =>
        obtain ⟨hf, hi3⟩ := hp
        obtain ⟨W4, hr, hl4, hk4, hF4, hFF⟩ := fin none W3 hf
        exact ⟨_, _, hr, .inl ⟨rfl, ⟨hI _ _ _ hi3 (hF4.mono fun _ _ h => .inr (.inr h)), hl4, hk4⟩, hFF⟩⟩
      | ret =>
        obtain ⟨v, W4, hr, h⟩ := out .ret W3 hp.1 hp.2
        refine ⟨v, W4, hr, ?_⟩
        rcases h with ⟨rfl, h⟩ | ⟨rfl, h⟩
        · exact .inl ⟨rfl, h⟩
        · exact .inr ⟨rfl, h⟩
      | exit id =>
        obtain ⟨v, W4, hr, h⟩ := out (.exit id) W3 hp.1 hp.2
        refine ⟨v, W4, hr, ?_⟩
        rcases h with ⟨rfl, h⟩ | ⟨rfl, h⟩
        · exact .inl ⟨rfl, h⟩
        · exact .inr ⟨rfl, h⟩
      | goto t =>
        obtain ⟨v, W4, hr, h⟩ := out (.goto t) W3 hp.1 hp.2
        refine ⟨v, W4, hr, ?_⟩
        rcases h with ⟨rfl, h⟩ | ⟨rfl, h⟩
        · exact .inl ⟨rfl, h⟩
        · exact .inr ⟨rfl, h⟩
      | panic ch => exact hp.elim
      | outgrown => exact hp.elim
    · have fin2 : ∀ {W2 : World} {st : LoopState} {pe : Option Code}, W2.heap[D + 1]? = some (.loop (rec st pe)) → st ≠ .busy → W2.heap[D]? = some (.deferred (some [])) →
          ∃ W3, (Instr.endLoop (D + 1)).run P W2 = .ok pe W3 ∧ Fr (fun k => k = D + 1) W2 W3 ∧ W3.heap[D]? = some (.deferred (some [])) := fun {W2 st pe} hl hb hk => by
        have h := run_endLoop (P := P) hl (by rw [hrec]; exact hb)
        have hF := (Fr.refl (fun k => k = D + 1) W2).putObj (r := D + 1) (.inl rfl) (.loop { rec st pe with state := .exhausted })
        have e : (rec st pe).pending = pe := by rw [hrec]
        exact ⟨_, h.trans (congrArg (fun p => Result.ok p _) e), hF, (World.putObj_heap_other (by omega)).trans hk⟩
      rintro e W2 ⟨⟨v, rfl⟩, (⟨xs, hS, hi, hl, hk⟩ | ⟨pre, hSp, c, hi, hl, hk⟩)⟩
      · obtain ⟨W3, hr, hF, hk3⟩ := fin2 hl (by simp) hk
        exact ⟨none, W3, hr, hdone xs W3 (hSb _ _ _ hS hF) (hI _ _ _ hi (hF.mono fun _ _ h => .inr (.inr h))) hk3⟩
      · obtain ⟨W3, hr, hF, hk3⟩ := fin2 hl (by simp) hk
        exact ⟨some c, W3, hr, hstop c pre W3 (hSpb _ _ _ hSp hF) (hIx _ _ _ _ hi (hF.mono fun _ _ h => .inr (.inr h))) hk3⟩
end Go.Proofs.YtnplamcajjblkaaGreat
