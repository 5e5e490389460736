/-
  The statement LeakSame: which seals are alike (the walk). Conditions: none but that the arguments can be read.
-/
import Derived.Test.YtnkfchondedfcaaJc
import Derived.Test.YtnkfchondedfcaaJd
import Derived.Deep.Slices
namespace Go.Proofs.Ytnkfchondedfcaa
open Go.RowKit

/-- Elements that lie in a row, as cells. -/
theorem ArrOf.arr {α : Type} {R : List Value → α → Prop} {w : World} {F : Nat → Prop} {size n : Nat} {A : Option Addr} {vs : List α} (h : ArrOf R w F size A n vs) :
    ∃ ys : List (List Value), ys.length = n ∧ (∀ y ∈ ys, y.length = size) ∧ (∀ (k : Nat) (a : α), vs[k]? = some a → ∃ y, ys[k]? = some y ∧ R y a) ∧ Arr w F size A n ys.flatten := by
  rcases Nat.eq_zero_or_pos n with h0 | hpos
  · subst h0
    have : vs = [] := List.eq_nil_of_length_eq_zero h.1
    subst this
    exact ⟨[], rfl, by simp, by simp, Arr.none_ _ _ _ _⟩
  · obtain ⟨b, o, e, hb, hc⟩ := h.2 hpos
    have hex : ∀ k, k < n → ∃ y : List Value, ∀ a, vs[k]? = some a → y.length = size ∧ R y a ∧ ∀ j u, y[j]? = some u → w.cell? ⟨b, o + k * size + j, none⟩ = some u := by
      intro k hk
      obtain ⟨y, h1, h2, h3⟩ := hc k _ (List.getElem?_eq_getElem (show k < vs.length by rw [h.1]; exact hk))
      exact ⟨y, fun a ha => by
        rw [List.getElem?_eq_getElem (by rw [h.1]; exact hk)] at ha
        injection ha with ha
        subst ha
        exact ⟨h1, h2, h3⟩⟩
    obtain ⟨f, hf⟩ := Go.Deep.choose_lt (α := List Value) hex
    have hl : ∀ y ∈ (List.range n).map f, y.length = size := by
      intro y hy
      obtain ⟨k, hk, rfl⟩ := List.mem_map.1 hy
      have hk := List.mem_range.1 hk
      exact (hf k hk _ (List.getElem?_eq_getElem (show k < vs.length by rw [h.1]; exact hk))).1
    have hat : ∀ k, k < n → ((List.range n).map f)[k]? = some (f k) := fun k hk => by simp [hk]
    refine ⟨(List.range n).map f, by simp, hl, fun k a ha => ?_, ?_, fun _ => ⟨b, o, e, hb, fun j u hu => ?_⟩⟩
    · have hk : k < n := by rw [← h.1]; exact (List.getElem?_eq_some_iff.1 ha).1
      exact ⟨f k, hat k hk, (hf k hk a ha).2.1⟩
    · have : ∀ (ys : List (List Value)), (∀ y ∈ ys, y.length = size) → ys.flatten.length = ys.length * size := by
        intro ys hys
        induction ys with
        | nil => simp
        | cons y ys ih =>
          rw [List.flatten_cons, List.length_append, ih fun y hy => hys y (by simp [hy]), hys y (by simp), List.length_cons, Nat.add_mul]; omega
      rw [this _ hl]; simp
    · have hjl := (List.getElem?_eq_some_iff.1 hu).1
      have hfl : ∀ (ys : List (List Value)), (∀ y ∈ ys, y.length = size) → ys.flatten.length = ys.length * size := by
        intro ys hys
        induction ys with
        | nil => simp
        | cons y ys ih =>
          rw [List.flatten_cons, List.length_append, ih fun y hy => hys y (by simp [hy]), hys y (by simp), List.length_cons, Nat.add_mul]; omega
      rw [hfl _ hl] at hjl
      simp only [List.length_map, List.length_range] at hjl
      have hs : 0 < size := by
        rcases Nat.eq_zero_or_pos size with h | h
        · subst h; simp at hjl
        · exact h
      have hk : j / size < n := by rw [Nat.div_lt_iff_lt_mul hs]; exact hjl
      have hm : j % size < size := Nat.mod_lt _ hs
      have e2 : j = j / size * size + j % size := by have := Nat.div_add_mod j size; rw [Nat.mul_comm] at this; omega
      rw [e2, flatten_at _ (j / size) (j % size) (f (j / size)) hl (hat _ hk) hm] at hu
      have := (hf _ hk _ (List.getElem?_eq_getElem (show j / size < vs.length by rw [h.1]; exact hk))).2.2 _ _ hu
      rw [Nat.add_assoc, ← e2] at this
      exact this
theorem ArrOf.one_cells {α : Type} {R : List Value → α → Prop} {vs : List α} {ys : List (List Value)} {n : Nat} (hn : vs.length = n) (hy : ys.length = n) (h : ∀ (k : Nat) (a : α), vs[k]? = some a → ∃ y, ys[k]? = some y ∧ R y a) (h1 : ∀ y a, R y a → ∀ u ∈ y, u.oneCell' = true) : ∀ u ∈ ys.flatten, u.oneCell' = true := by
  intro u hu
  obtain ⟨y, hyy, huy⟩ := List.mem_flatten.1 hu
  obtain ⟨k, hk, e⟩ := List.getElem_of_mem hyy
  obtain ⟨y', e', hr⟩ := h k _ (List.getElem?_eq_getElem (show k < vs.length by omega))
  rw [List.getElem?_eq_getElem hk, e] at e'
  injection e' with e'
  subst e'
  exact h1 _ _ hr u huy

theorem ArrOf.append_own {α : Type} {R : List Value → α → Prop} {w : World} {F : Nat → Prop} {size n m : Nat} {A : Option Addr} {vs us : List α} {xs ys : List (List Value)}
    (ha : vs.length = n) (hb : us.length = m) (hx : xs.length = n) (hxl : ∀ y ∈ xs, y.length = size) (hyl : ∀ y ∈ ys, y.length = size)
    (hxr : ∀ (k : Nat) (a : α), vs[k]? = some a → ∃ y, xs[k]? = some y ∧ R y a) (hyr : ∀ (k : Nat) (a : α), us[k]? = some a → ∃ y, ys[k]? = some y ∧ R y a)
    (h : Arr w F size A (n + m) (xs.flatten ++ ys.flatten)) : ArrOf R w F size A (n + m) (vs ++ us) := by
  refine ArrOf.of_arr (ys := xs ++ ys) (by rw [List.flatten_append]; exact h) (fun y hy => ?_) (by rw [List.length_append]; omega) (fun k a hk => ?_)
  · rcases List.mem_append.1 hy with h | h
    · exact hxl y h
    · exact hyl y h
  · by_cases hkn : k < n
    · rw [List.getElem?_append_left (by omega)] at hk ⊢
      exact hxr k a hk
    · rw [List.getElem?_append_right (by omega), ha] at hk
      rw [List.getElem?_append_right (by omega), hx]
      exact hyr _ a hk

theorem el_seal : ElemOk Try.prog 38 41 (.agg #[.int .i64 0, .int .i64 0, .int .u32 0, .int .u32 0, .int .i64 0, .slice none 0 0]) 6 56 := .mk Try.underlying38 (by kernel_rfl) rfl (by omega) (by omega)
theorem SealR.ones {w : World} {F : Nat → Prop} {y : List Value} {s : Seal} (h : SealR w F y s) : ∀ u ∈ y, u.oneCell' = true := by
  obtain ⟨A, n, c, rfl, _⟩ := h
  simp [Value.oneCell']

set_option maxRecDepth 100000 in
set_option maxHeartbeats 2000000 in
theorem LeakSame_any (w : World) (A B : Option Addr) (n c m d : Nat) (xs ys : List Seal) (hx : Seals w (fun k => k < w.heap.size) A n xs) (hy : Seals w (fun k => k < w.heap.size) B m ys) (hn : n ≤ 9223372036854775807) (hm : m ≤ 9223372036854775807) :
    Calls Try.prog 4 #[.slice A n c, .slice B m d] w fun e w' => e = .returned (.bool true) ∧ Below w.heap.size w w' := by
  have hfin : ∀ w', Fr NoB w w' → Below w.heap.size w w' := fun w' h => Fr.below h (Nat.le_refl _) fun _ _ => id
  have Hfin := Lib.hid hfin
  clear hfin
  by_cases h30 : n ≤ 30 ∧ m ≤ 30
  · obtain ⟨hn30, hm30⟩ := h30
    go_enter Try.func4, Try.ntmps4
    have b1 : decide (30 < (n : Int)) = false := by simp only [decide_eq_false_iff_not]; omega
    have b2 : decide (30 < (m : Int)) = false := by simp only [decide_eq_false_iff_not]; omega
    go_wp2_with fail
    refine (awake31 _).mono ?_
    rintro e w1 ⟨rfl, hf1⟩
    have hx1 := hx.fr hf1 fun _ _ => id
    have hy1 := hy.fr hf1 fun _ _ => id
    obtain ⟨ya, la, lla, ra, arra⟩ := ArrOf.arr hx1
    obtain ⟨yb, lb, llb, rb, arrb⟩ := ArrOf.arr hy1
    have onea := ArrOf.one_cells hx1.len la ra fun y a h => SealR.ones h
    have oneb := ArrOf.one_cells hy1.len lb rb fun y a h => SealR.ones h
    have hRR := fun (W : World) (hf : Fr NoB w1 W) (P : Option Addr) (h : Arr W (fun k => w1.heap.size ≤ k) 6 P (n + m) (ya.flatten ++ yb.flatten)) =>
      ArrOf.append_own (R := SealR W (fun k => k < w.heap.size)) hx1.len hy1.len la lla llb (fun k a hk => (ra k a hk).imp fun y hy => ⟨hy.1, hy.2.fr hf fun _ _ => id⟩) (fun k a hk => (rb k a hk).imp fun y hy => ⟨hy.1, hy.2.fr hf fun _ _ => id⟩) h
    have Onea := Lib.hid onea
    have Oneb := Lib.hid oneb
    have HRR := Lib.hid hRR
    clear onea oneb hRR ra rb la lb lla llb
    go_wp2_with (first
      | (at_builtin; refine wpList_app _ el_seal rfl (.const (.slice none 0 0)) (.tmp 17) rfl none 0 0 [] rfl (Own.nil _ _ _) _ _ _ _ _ rfl arra Onea.out (by omega) ?_; intro A1 c1 w2 hown1 hf2 hin1 hnil1; simp only [Nat.zero_add, List.nil_append] at hown1)
      | (at_builtin; refine wpList_app _ el_seal rfl (.tmp 18) (.tmp 19) rfl A1 _ c1 _ rfl hown1 _ _ m _ _ rfl (arrb.fr hf2 fun _ _ => inB_none _) Oneb.out (by omega) ?_; intro A2 c2 w3 hown2 hf3 hin2 hnil2))
    have hin : ∀ k, inB A2 k → w1.heap.size ≤ k := fun k hk => (hin2 k hk).elim (fun h => (hin1 k h).elim (fun h => absurd h (inB_none k)) fun h => by omega) fun h => by have := hf2.size; omega
    have hf13 : Fr NoB w1 w3 := (hf2.mono fun k _ hk => inB_none k hk).new hf3 fun k hk => .inr ((hin1 k hk).elim (fun h => absurd h (inB_none k)) fun h => by omega)
    have hS3 := HRR.out w3 hf13 A2 (hown2.arr fun k _ hk => hin k hk)
    have hF3 := hf1.trans hf13 fun _ _ => id
    have hdiff : ∀ k, (fun k => w1.heap.size ≤ k) k → ¬ NoB k := fun _ _ => id
    clear hown1 hown2 hin1 hin2 hnil1 hnil2 arra arrb hf13 hin HRR Onea Oneb
    obtain ⟨w4, rfl⟩ : ∃ w4 : World, w4 = w3 := ⟨_, rfl⟩
    go_loopw [22] (fun i wr => ∃ k : Nat, k ≤ n + m ∧ i = .int .i64 k ∧ Fr NoB w4 wr) (fun i _ => n + m - (intOf i).toNat)
    case atStart => exact ⟨0, by omega, rfl, Fr.refl _ _⟩
    case round =>
      obtain ⟨k, hk, rfl, hF⟩ := hrel
      obtain ⟨w5, rfl⟩ : ∃ w5 : World, w5 = wr := ⟨_, rfl⟩
      by_cases hkn : k < n + m
      · obtain ⟨bb, o, p, y, rfl, hGb, hp, hy, ⟨P, q, cq, rfl, _⟩, hcell⟩ := (hS3.fr hF hdiff (R' := SealR w5 fun k => k < w.heap.size) fun y a _ hy => hy.fr hF fun _ _ => id).at_ hkn
        have Hone : Hid (#[Value.int .i64 p.number, .int .i64 p.kind, .int .u32 p.realm, .int .u32 p.epoch, .int .i64 p.size, .slice P q cq].all (·.oneCell') = true) := by show _ = _; simp [Value.oneCell']
        clear hp hy
        by_cases hq : 30 < q
        · have bq : decide (30 < (q : Int)) = true := by simp only [decide_eq_true_eq]; omega
          clear hq
          go_wp2_with (first
            | (refine wpList_load_agg rfl 41 (.tmp 24) rfl bb (o + k * 6) rfl _ _ hcell Try.underlying41 rfl seal_size ?_)
            | (refine wpList_alloc_any rfl 41 rfl 6 seal_zero ?_; intro z hz; have Hz := Lib.hid hz; clear hz)
            | (refine wpList_store_newN rfl 41 (.tmp 6) (.tmp 25) rfl 6 seal_size _ z Hz.out #[.int .i64 p.number, .int .i64 p.kind, .int .u32 p.realm, .int .u32 p.epoch, .int .i64 p.size, .slice P q cq] rfl rfl rfl Hone.out ?_))
          go_ret
          exact ⟨rfl, Hfin.out _ ((hF3.trans hF fun _ _ => id).alloc _)⟩
        · have bq : decide (30 < (q : Int)) = false := by simp only [decide_eq_false_iff_not]; omega
          clear hq
          go_wp2_with (first
            | (refine wpList_load_agg rfl 41 (.tmp 24) rfl bb (o + k * 6) rfl _ _ hcell Try.underlying41 rfl seal_size ?_)
            | (refine wpList_alloc_any rfl 41 rfl 6 seal_zero ?_; intro z hz; have Hz := Lib.hid hz; clear hz)
            | (refine wpList_store_newN rfl 41 (.tmp 6) (.tmp 25) rfl 6 seal_size _ z Hz.out #[.int .i64 p.number, .int .i64 p.kind, .int .u32 p.realm, .int .u32 p.epoch, .int .i64 p.size, .slice P q cq] rfl rfl rfl Hone.out ?_))
          go_roundw
          case rel => exact ⟨k + 1, by omega, by go_num, hF.alloc _⟩
          case measure => simp [intOf]; omega
      · have hF5 := hF3.trans hF fun _ _ => id
        have H1 := Same_any w5 _ _ A B n c m d xs ys (hx.fr hF5 fun _ _ => id) (hy.fr hF5 fun _ _ => id) hn
        have H2 := fun W (hf : Fr NoB w W) => SameSeals_any W _ _ A B n c m d xs ys (hx.fr hf fun _ _ => id) (hy.fr hf fun _ _ => id) hn
        have H3 := fun W (hf : Fr NoB w W) => Same_any W _ _ A A n c n c xs xs (hx.fr hf fun _ _ => id) (hx.fr hf fun _ _ => id) hn
        rw [show decide (xs = xs) = true from by simp] at H3
        generalize decide (xs = ys) = v at H1 H2
        have hH1 := Lib.hid H1
        have hH2 := Lib.hid H2
        have hH3 := Lib.hid H3
        clear H1 H2 H3
        go_wp2_with fail
        refine hH1.out.mono ?_
        rintro e w6 ⟨rfl, hf6⟩
        have hF6 := hF5.trans hf6 fun _ _ => id
        go_wp2_with fail
        refine (hH2.out _ hF6).mono ?_
        rintro e w7 ⟨rfl, hf7⟩
        have hF7 := hF6.trans hf7 fun _ _ => id
        go_wp2_with fail
        refine (hH3.out _ hF7).mono ?_
        rintro e w8 ⟨rfl, hf8⟩
        go_wp2
        go_ret
        exact ⟨rfl, Hfin.out _ (hF7.trans hf8 fun _ _ => id)⟩
  · have h31 : (decide (30 < (n : Int)) = true) ∨ (decide (30 < (n : Int)) = false ∧ decide (30 < (m : Int)) = true) := by
      simp only [decide_eq_true_eq, decide_eq_false_iff_not]; omega
    clear h30
    rcases h31 with h31 | ⟨h31, h32⟩
    all_goals
      go_enter Try.func4, Try.ntmps4
      go_wp2_with (go_at_call 18; refine (awake31 _).mono ?_; rintro e w1 ⟨rfl, hf1⟩)
      go_ret
      exact ⟨rfl, Hfin.out _ hf1⟩
end Go.Proofs.Ytnkfchondedfcaa
