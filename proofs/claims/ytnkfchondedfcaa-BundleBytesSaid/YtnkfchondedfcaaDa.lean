/-
  The parts of chapter 8's statements, as a writer has them: wrote. Conditions: the parts are few.
-/
import Derived.Test.YtnkfchondedfcaaCz
namespace Go.Proofs.Ytnkfchondedfcaa
open Go.RowKit

def partBytes (p : Part) : List UInt8 := if p.kind = 0 then encN p.n else if p.kind = 1 then p.b else if p.kind = 2 then textBytes p.b else idsBytes p.ids
def partsBytes (l : List Part) : List UInt8 := l.flatMap partBytes

theorem idsFlat_len (x : List Id32) : (idsFlat x).length = 32 * x.length := by
  induction x with
  | nil => rfl
  | cons a x ih => simp only [idsFlat, List.flatMap_cons, List.length_append, List.length_cons] at ih ⊢; rw [ih, a.2]; omega
theorem partBytes_len {p : Part} (h : partSmall p = true) (hn : p.n < 18446744073709551616) : (partBytes p).length ≤ 400 := by
  simp only [partSmall, Bool.and_eq_true, decide_eq_true_eq] at h
  have h1 := encN_len64 hn
  have h2 := encN_len64 (n := p.b.length) (by omega)
  have h3 := encN_len64 (n := p.ids.length) (by omega)
  have h4 := idsFlat_len p.ids
  unfold partBytes
  repeat' split
  all_goals (try simp only [textBytes, idsBytes, List.length_append]); omega
theorem few_mem {l : List Part} (h : fewB l = true) {p : Part} (hp : p ∈ l) : partSmall p = true := by
  simp only [fewB, Bool.and_eq_true, List.all_eq_true] at h
  exact h.1 p hp
theorem few_len {l : List Part} (h : fewB l = true) : l.length ≤ 20 := by
  simp only [fewB, Bool.and_eq_true, decide_eq_true_eq] at h
  exact h.2

set_option maxRecDepth 100000 in
set_option maxHeartbeats 2000000 in
theorem wrote_any (w : World) (A : Option Addr) (n c : Nat) (l : List Part) (h : Parts w (fun k => k < w.heap.size) A n l) (hfew : fewB l = true) :
    Calls Try.prog 33 #[.slice A n c] w fun e w' => NewBytes w w' e (partsBytes l) := by
  have hlen := h.len
  have Hlen := Lib.hid hlen
  have hn20 := few_len hfew
  rw [hlen] at hn20
  have Hfew := Lib.hid hfew
  clear hlen hfew
  go_enter Try.func33, Try.ntmps33
  go_wp2
  have hW0 := WrAt.new w
  obtain ⟨w0, hw0⟩ : ∃ w0 : World, w.alloc (.cells #[.slice none 0 0] 50) = w0 := ⟨_, rfl⟩
  have hs0 : w.heap.size + 1 = w0.heap.size := by rw [← hw0]; simp
  have hF00 : Fr NoB w w0 := by rw [← hw0]; exact (Fr.refl _ _).alloc _
  rw [hw0] at hW0 ⊢
  clear hw0
  have Hs0 := Lib.hid hs0
  clear hs0
  go_loopw [10] (fun i wr => ∃ k : Nat, k ≤ n ∧ i = .int .i64 k ∧ WrAt wr (fun j => w.heap.size ≤ j) w.heap.size (partsBytes (l.take k)) ∧ (partsBytes (l.take k)).length ≤ 400 * k ∧ Fr NoB w wr) (fun i _ => n - (intOf i).toNat)
  case atStart => exact ⟨0, by omega, rfl, by simpa [partsBytes] using hW0.more fun j hj => by omega, by simp [partsBytes], hF00⟩
  case round =>
    obtain ⟨k, hk, rfl, hW, hlk, hF⟩ := hrel
    obtain ⟨w1, rfl⟩ : ∃ w1 : World, w1 = wr := ⟨_, rfl⟩
    have s1 := hF.size
    by_cases hkn : k < n
    · obtain ⟨bb, o, p, y, rfl, hGb, hp, hy, hyr, hcell⟩ := (h.fr hF fun _ _ => id).at_ hkn
      obtain ⟨AB, nB, cB, AI, nI, cI, rfl, h2, h3, h4, h5, h6, h7, hpn, _⟩ := hyr
      have hkl : k < l.length := by rw [Hlen.out]; exact hkn
      have hpe : l[k] = p := by rw [List.getElem?_eq_getElem hkl] at hp; injection hp
      have Htake : Hid (partsBytes (l.take (k + 1)) = partsBytes (l.take k) ++ partBytes p) := by
        show _ = _
        rw [List.take_succ_eq_append_getElem hkl, hpe, partsBytes, List.flatMap_append]; simp [partsBytes]
      have hsm := few_mem Hfew.out (hpe ▸ List.getElem_mem hkl)
      have hpl := partBytes_len hsm hpn
      simp only [partSmall, Bool.and_eq_true, decide_eq_true_eq] at hsm
      rw [h4.len, h7.len] at hsm
      obtain ⟨hsm1, hsm2⟩ := hsm
      generalize partsBytes (l.take k) = l1 at *
      have Hone : Hid (#[Value.int .i64 p.kind, .int .u64 p.n, .slice AB nB cB, .slice AI nI cI, .int .i64 p.most].all (·.oneCell') = true) := by show _ = _; simp [Value.oneCell']
      clear hp hpe hy h5
      have hWt := hW.tight
      have hrel : ∀ w3, WrAt w3 (fun j => w.heap.size ≤ j) w.heap.size (l1 ++ partBytes p) → Fr NoB w w3 → WrAt w3 (fun j => w.heap.size ≤ j) w.heap.size (partsBytes (l.take (k + 1))) ∧ (partsBytes (l.take (k + 1))).length ≤ 400 * (k + 1) ∧ Fr NoB w w3 := fun w3 a b => by
        rw [Htake.out]; exact ⟨a, by rw [List.length_append]; omega, b⟩
      have Hrel := Lib.hid hrel
      clear hrel
      by_cases hk0 : p.kind = 0
      · have hpb : Hid (partBytes p = encN p.n) := by show _ = _; simp [partBytes, hk0]
        have hk0' : (p.kind == 0) = true := by simp [hk0]
        clear hk0
        go_wp2_with (first
          | (refine wpList_load_agg rfl 62 (.tmp 12) rfl bb (o + k * 5) rfl _ _ hcell Try.underlying62 rfl partT_size ?_)
          | (refine wpList_alloc_any rfl 62 rfl 5 partT_zero ?_; intro z hz; have Hz := Lib.hid hz; clear hz)
          | (refine wpList_store_newN rfl 62 (.tmp 5) (.tmp 13) rfl 5 partT_size _ z Hz.out #[.int .i64 p.kind, .int .u64 p.n, .slice AB nB cB, .slice AI nI cI, .int .i64 p.most] rfl rfl rfl Hone.out ?_))
        refine (WN_any _ (fun j => w.heap.size ≤ j ∧ j < w1.heap.size) (fun k => k = w1.heap.size + 1) _ l1 _ 1 1 [p.n] (hWt.fr (((Fr.refl NoB _).alloc _).alloc _) (fun _ _ _ h => h)) ?_ (fun k hk => by omega) (by simpa using hpn) (by omega)).mono ?_
        · have := Arr.one (w1.alloc (.cells #[.int .i64 p.kind, .int .u64 p.n, .slice AB nB cB, .slice AI nI cI, .int .i64 p.most] 62)) (u64v p.n) 23
          simpa [u64v] using this
        rintro e w3 ⟨rfl, hf3, hW3⟩
        have s3 := hf3.size
        simp only [World.size_alloc] at s3 hW3
        have hfin := Hrel.out w3 (by rw [hpb.out]; simp only [List.flatMap_cons, List.flatMap_nil, List.append_nil] at hW3; exact hW3.more fun j hj => by grind) (((hF.alloc _).alloc _).new hf3 fun j hj => by grind)
        have Hfin := Lib.hid hfin
        clear hfin
        go_wp2
        go_roundw
        case rel => exact ⟨k + 1, by omega, by go_num, Hfin.out.1, Hfin.out.2.1, Hfin.out.2.2⟩
        case measure => simp [intOf]; omega
      · have hk0' : (p.kind == 0) = false := by simp [hk0]
        by_cases hk1 : p.kind = 1
        · have hpb : Hid (partBytes p = p.b) := by show _ = _; simp [partBytes, hk1]
          have hk1' : (p.kind == 1) = true := by simp [hk1]
          clear hk0 hk1
          go_wp2_with (first
          | (refine wpList_load_agg rfl 62 (.tmp 12) rfl bb (o + k * 5) rfl _ _ hcell Try.underlying62 rfl partT_size ?_)
          | (refine wpList_alloc_any rfl 62 rfl 5 partT_zero ?_; intro z hz; have Hz := Lib.hid hz; clear hz)
          | (refine wpList_store_newN rfl 62 (.tmp 5) (.tmp 13) rfl 5 partT_size _ z Hz.out #[.int .i64 p.kind, .int .u64 p.n, .slice AB nB cB, .slice AI nI cI, .int .i64 p.most] rfl rfl rfl Hone.out ?_))
          refine (WRaw_any _ _ _ _ _ _ _ _ _ (hWt.fr ((Fr.refl NoB _).alloc _) (fun _ _ _ h => h)) (h4.alloc _) (by omega)).mono ?_
          rintro e w3 ⟨rfl, hf3, hW3⟩
          have s3 := hf3.size
          simp only [World.size_alloc] at s3 hW3
          have hfin := Hrel.out w3 (by rw [hpb.out];  exact hW3.more fun j hj => by grind) ((hF.alloc _).new hf3 fun j hj => by grind)
          have Hfin := Lib.hid hfin
          clear hfin
          go_wp2
          go_roundw
          case rel => exact ⟨k + 1, by omega, by go_num, Hfin.out.1, Hfin.out.2.1, Hfin.out.2.2⟩
          case measure => simp [intOf]; omega
        · have hk1' : (p.kind == 1) = false := by simp [hk1]
          by_cases hk2 : p.kind = 2
          · have hpb : Hid (partBytes p = textBytes p.b) := by show _ = _; simp [partBytes, hk2]
            have hk2' : (p.kind == 2) = true := by simp [hk2]
            clear hk0 hk1 hk2
            go_wp2_with (first
          | (refine wpList_load_agg rfl 62 (.tmp 12) rfl bb (o + k * 5) rfl _ _ hcell Try.underlying62 rfl partT_size ?_)
          | (refine wpList_alloc_any rfl 62 rfl 5 partT_zero ?_; intro z hz; have Hz := Lib.hid hz; clear hz)
          | (refine wpList_store_newN rfl 62 (.tmp 5) (.tmp 13) rfl 5 partT_size _ z Hz.out #[.int .i64 p.kind, .int .u64 p.n, .slice AB nB cB, .slice AI nI cI, .int .i64 p.most] rfl rfl rfl Hone.out ?_))
            have hone := ArrOf.one_bytes (G := fun k => k < w.heap.size ∨ k = w1.heap.size + 1) (c := cB) (h4.alloc (.cells #[.int .i64 p.kind, .int .u64 p.n, .slice AB nB cB, .slice AI nI cI, .int .i64 p.most] 62)) h2 h3 22 (fun k _ hk => .inl hk) (by simp)
            simp only [World.size_alloc] at hone
            refine (WText_any _ (fun j => w.heap.size ≤ j ∧ j < w1.heap.size) _ _ _ _ _ _ _ (hWt.fr (((Fr.refl NoB _).alloc _).alloc _) (fun _ _ _ h => h)) hone (fun k hk => by grind) (fun k hk => by simp only [World.size_alloc]; grind) (by rw [show [p.b].flatMap textBytes = textBytes p.b by simp, textBytes, List.length_append, h4.len]; have := encN_len64 (n := nB) (by omega); omega) (by omega)).mono ?_
            rintro e w3 ⟨rfl, hf3, hW3⟩
            have s3 := hf3.size
            simp only [World.size_alloc] at s3 hW3
            have hfin := Hrel.out w3 (by rw [hpb.out]; simp only [List.flatMap_cons, List.flatMap_nil, List.append_nil] at hW3; exact hW3.more fun j hj => by grind) (((hF.alloc _).alloc _).new hf3 fun j hj => by grind)
            have Hfin := Lib.hid hfin
            clear hfin
            go_wp2
            go_roundw
            case rel => exact ⟨k + 1, by omega, by go_num, Hfin.out.1, Hfin.out.2.1, Hfin.out.2.2⟩
            case measure => simp [intOf]; omega
          · have hpb : Hid (partBytes p = idsBytes p.ids) := by show _ = _; simp [partBytes, hk0, hk1, hk2]
            have hk2' : (p.kind == 2) = false := by simp [hk2]
            clear hk0 hk1 hk2
            go_wp2_with (first
          | (refine wpList_load_agg rfl 62 (.tmp 12) rfl bb (o + k * 5) rfl _ _ hcell Try.underlying62 rfl partT_size ?_)
          | (refine wpList_alloc_any rfl 62 rfl 5 partT_zero ?_; intro z hz; have Hz := Lib.hid hz; clear hz)
          | (refine wpList_store_newN rfl 62 (.tmp 5) (.tmp 13) rfl 5 partT_size _ z Hz.out #[.int .i64 p.kind, .int .u64 p.n, .slice AB nB cB, .slice AI nI cI, .int .i64 p.most] rfl rfl rfl Hone.out ?_))
            refine (WIds_any _ (fun j => w.heap.size ≤ j ∧ j < w1.heap.size) (fun k => k < w.heap.size) _ _ _ _ _ _ (hWt.fr ((Fr.refl NoB _).alloc _) (fun _ _ _ h => h)) (h7.fr ((Fr.refl NoB _).alloc _) (fun _ _ => id) fun y a _ hy => hy) (fun k hk => by omega) (fun k hk => by simp; omega) (by omega)).mono ?_
            rintro e w3 ⟨rfl, hf3, hW3⟩
            have s3 := hf3.size
            simp only [World.size_alloc] at s3 hW3
            have hfin := Hrel.out w3 (by rw [hpb.out];  exact hW3.more fun j hj => by grind) ((hF.alloc _).new hf3 fun j hj => by grind)
            have Hfin := Lib.hid hfin
            clear hfin
            go_wp2
            go_roundw
            case rel => exact ⟨k + 1, by omega, by go_num, Hfin.out.1, Hfin.out.2.1, Hfin.out.2.2⟩
            case measure => simp [intOf]; omega
    · have hke : k = n := by omega
      subst hke
      have Hw : WrAt w1 (fun j => w.heap.size ≤ j) w.heap.size (partsBytes l) := by rwa [List.take_of_length_le (by rw [Hlen.out]; exact Nat.le_refl _)] at hW
      have Hlk : (partsBytes l).length ≤ 400 * k := by rwa [List.take_of_length_le (by rw [Hlen.out]; exact Nat.le_refl _)] at hlk
      go_wp2_with fail
      refine (WBytes_any _ _ _ _ Hw (by omega)).mono ?_
      rintro e w3 ⟨A3, c3, rfl, hf3, hO3, hA3⟩
      go_wp2
      go_ret
      exact ⟨A3, c3, rfl, hF.new hf3 fun j hj => hj.elim, hO3, fun j hj => by have := hA3 j hj; omega⟩

end Go.Proofs.Ytnkfchondedfcaa
