/-
  A bundle as bytes (bundle.Put). Conditions: each contract states its own.
-/
import Derived.Test.YtnkfchondedfcaaVd
import Derived.Test.YtnkfchondedfcaaMw
namespace Go.Proofs.Ytnkfchondedfcaa
open Go.RowKit

def bunOut (b : Bun) : List UInt8 := if bunMay b = true then bunBytes b else []
def bunErr (b : Bun) : Int := if bunMay b = true then 0 else 340
/-- A bundle in a block of its own. -/
structure BunBlk (w : World) (g : Nat) (A : Option Addr) (n c : Nat) (B : Option Addr) (m d : Nat) : Prop where
  blk : Blk w g 112 (bunCells A n c B m d).toArray
section
variable {w w' : World} {g : Nat} {A B : Option Addr} {n c m d : Nat} {S : Nat → Prop}
theorem BunBlk.fr (h : BunBlk w g A n c B m d) (hf : Fr S w w') (hd : ¬ S g) : BunBlk w' g A n c B m d := ⟨h.blk.fr hf hd⟩
theorem BunBlk.c0 (h : BunBlk w g A n c B m d) : w.cell? ⟨g, 0, none⟩ = some (.slice A n c) := (h.blk.cell 0).trans rfl
theorem BunBlk.c1 (h : BunBlk w g A n c B m d) : w.cell? ⟨g, 1, none⟩ = some (.slice B m d) := (h.blk.cell 1).trans rfl
theorem BunBlk.s0 (h : BunBlk w g A n c B m d) (A' : Option Addr) (n' c' : Nat) : BunBlk (w.setCell ⟨g, 0, none⟩ (.slice A' n' c')) g A' n' c' B m d := ⟨h.blk.set_ _ _⟩
theorem BunBlk.s1 (h : BunBlk w g A n c B m d) (B' : Option Addr) (m' d' : Nat) : BunBlk (w.setCell ⟨g, 1, none⟩ (.slice B' m' d')) g A n c B' m' d' := ⟨h.blk.set_ _ _⟩
theorem BunBlk.all (h : BunBlk w g A n c B m d) : ∀ j u, (bunCells A n c B m d)[j]? = some u → w.cell? ⟨g, 0 + j, none⟩ = some u := fun j u hu => by rw [Nat.zero_add, h.blk.cell]; simpa using hu
theorem bunCells_ones (A : Option Addr) (n c : Nat) (B : Option Addr) (m d : Nat) : (bunCells A n c B m d).toArray.all (·.oneCell') = true := by simp [bunCells, Value.oneCell']
end
theorem goodS_size {s : ByteArray} (h : goodS s = true) : s.size ≤ 64 := by
  unfold goodS at h
  simp only [Bool.and_eq_true, decide_eq_true_eq] at h
  exact h.2.1
theorem namedP_of {l : List Ref} (h : namedP l = true) : l.length ≤ 100 ∧ ∀ r ∈ l, r.name.size ≤ 64 := by
  unfold namedP at h
  simp only [Bool.and_eq_true, decide_eq_true_eq, List.all_eq_true] at h
  exact ⟨h.1, fun r hr => goodS_size (h.2.1 r hr)⟩
theorem bunMay_of {b : Bun} (h : bunMay b = true) : b.refs.length ≤ 100 ∧ (∀ r ∈ b.refs, r.name.size ≤ 64) ∧ b.objs.length ≤ 2000 := by
  unfold bunMay at h
  simp only [Bool.and_eq_true, decide_eq_true_eq] at h
  have := namedP_of h.1
  exact ⟨this.1, this.2, h.2.1⟩
theorem textBytes_lenE (l : List UInt8) (h : l.length < 18446744073709551616) : (textBytes l).length ≤ l.length + 10 := by
  have := encN_len64 (n := l.length) h
  simp only [textBytes, List.length_append]; omega
theorem refBytes_len {r : Ref} (h : r.name.size ≤ 64) : (refBytes r).length ≤ 106 := by
  have e : r.name.toList.length = r.name.size := toList_len _
  have := textBytes_lenE r.name.toList (by omega)
  rw [refBytes, List.length_append, r.id.2]; omega

theorem wr_textE {w : World} {B b K t : Nat} {l x : List UInt8} {A : Option Addr} {n c : Nat} (hW : WrAt w (fun j => B ≤ j ∧ j < K) b l) (hb : Byt w (fun k => k < B ∨ K ≤ k) A n x) (h1 : n ≤ c) (h2 : c ≤ maxLen) (hB : B ≤ w.heap.size) (hK : K ≤ w.heap.size) (hroom : l.length + n + 30 ≤ 70368744177664) :
    Calls Try.prog 46 #[.pointer (some ⟨b, 0, none⟩), .slice (some ⟨w.heap.size, 0, none⟩) 1 1] (w.alloc (.cells #[.slice A n c] t)) fun e w' => e = .returned (.tuple #[]) ∧ Fr (fun j => B ≤ j ∧ j < K) w w' ∧ WrAt w' (fun j => B ≤ j) b (l ++ textBytes x) := by
  have hx := hb.len
  have ht : (textBytes x).length ≤ n + 10 := by
    have := encN_len64 (n := x.length) (by omega)
    simp only [textBytes, List.length_append]
    omega
  have hA := ArrOf.one_bytes (G := fun k => (k < B ∨ K ≤ k) ∧ k < w.heap.size + 1) hb h1 h2 t (fun k hk h => ⟨h, by omega⟩) ⟨.inr hK, by omega⟩
  refine (WText_any _ (fun j => B ≤ j ∧ j < K) _ b l _ 1 1 [x] (hW.fr ((Fr.refl NoB w).alloc _) fun _ _ _ => id) hA (fun k h1 h2 => by omega) (fun k h => by simp only [World.size_alloc]; exact h.2) (by simp only [List.flatMap_cons, List.flatMap_nil, List.append_nil]; omega) (by omega)).mono ?_
  rintro e w' ⟨q1, q2, q3⟩
  simp only [List.flatMap_cons, List.flatMap_nil, List.append_nil, World.size_alloc] at q3
  exact ⟨q1, ((Fr.refl (fun j => B ≤ j ∧ j < K) w).alloc _).trans q2 fun _ _ h => h, q3.more fun j hj => by omega⟩

set_option maxRecDepth 100000 in
set_option maxHeartbeats 4000000 in
theorem bunPut_any (w : World) (F : Nat → Prop) (y : List Value) (b : Bun) (hy : BunR w F y b) (hF : ∀ k, F k → k < w.heap.size) (hsz : ∀ x ∈ b.objs, x.length ≤ 70368744177664) (htot : (b.objs.flatMap textBytes).length ≤ 1000000000) :
    Calls Try.prog 66 #[.agg y.toArray] w fun e w' => NewBytes2 .i64 w w' e (bunOut b) (bunErr b) := by
  have hy0 := hy
  obtain ⟨A, n, c, B, m, d, rfl, hnc, hcm, hr, hmd, hdm, ho⟩ := hy
  have Hrl := Lib.hid hr.len
  have Hol := Lib.hid ho.len
  have Hl : Hid ((bunCells A n c B m d).length = 2) := rfl
  have hB : BunBlk (w.alloc (.cells (bunCells A n c B m d).toArray 112)) w.heap.size A n c B m d := ⟨Blk.new _ _ _⟩
  cases hmay : bunMay b with
  | false =>
    have e1 : bunOut b = [] := by simp [bunOut, hmay]
    have e2 : bunErr b = 340 := by simp [bunErr, hmay]
    rw [e1, e2]
    clear e1 e2
    have Hmay := Lib.hid hmay
    have hall := hB.all
    have hcall := fun W (hW : Fr NoB w W) => bunMay_any W F _ b (hy0.fr hW fun _ _ => id) hsz
    clear hmay hB hy0
    generalize bunCells A n c B m d = yc at *
    have Hcall := Lib.hid hcall
    clear hcall
    go_enter Try.func66, Try.ntmps66
    go_wp2_with (first
      | (refine wpList_load_agg rfl 112 (.tmp 1) rfl w.heap.size 0 rfl yc _ hall Try.underlying112 rfl (by rw [Hl.out]; exact bun_size) ?_)
      | (go_at_call 99; refine (Hcall.out _ ((Fr.refl NoB w).alloc _)).mono ?_; rw [Hmay.out]; rintro e w1 ⟨rfl, hf1⟩))
    go_ret2
    exact NewBytes2.none_ (((Fr.refl NoB w).alloc _).trans hf1 fun _ _ => id)
  | true =>
    have e1 : bunOut b = bunBytes b := by simp [bunOut, hmay]
    have e2 : bunErr b = 0 := by simp [bunErr, hmay]
    rw [e1, e2]
    clear e1 e2
    obtain ⟨a1, a2, a3⟩ := bunMay_of hmay
    rw [Hrl.out] at a1
    rw [Hol.out] at a3
    have A2 := Lib.hid a2
    have Hmay := Lib.hid hmay
    have hall := hB.all
    have hcall := fun W (hW : Fr NoB w W) => bunMay_any W F _ b (hy0.fr hW fun _ _ => id) hsz
    have Hcall := Lib.hid hcall
    clear hmay a2 hy0 hcall
    obtain ⟨yc, hyc⟩ : ∃ yc, yc = bunCells A n c B m d := ⟨_, rfl⟩
    rw [← hyc] at hall hB Hl Hcall ⊢
    have Hyc := Lib.hid hyc
    clear hyc
    go_enter Try.func66, Try.ntmps66
    go_wp2_with (first
      | (refine wpList_load_agg rfl 112 (.tmp 1) rfl w.heap.size 0 rfl yc _ hall Try.underlying112 rfl (by rw [Hl.out]; exact bun_size) ?_)
      | (go_at_call 99
         refine (Hcall.out _ ((Fr.refl NoB w).alloc _)).mono ?_
         rw [Hmay.out]
         rintro e w1 ⟨rfl, hf1⟩
         have s1 := hf1.size
         simp only [World.size_alloc] at s1
         have hB1 : BunBlk w1 w.heap.size A n c B m d := hB.fr hf1 id
         have hF1 : Fr NoB w w1 := ((Fr.refl NoB w).alloc _).trans hf1 fun _ _ => id
         have q0 := (hB1.fr ((Fr.refl NoB w1).alloc (.cells #[.slice none 0 0] 50)) id).c0
         clear hf1))
    obtain ⟨wa, hwa⟩ : ∃ wa, wa = w1.alloc (.cells #[.slice none 0 0] 50) := ⟨_, rfl⟩
    have hsa : wa.heap.size = w1.heap.size + 1 := by rw [hwa, World.size_alloc]
    have hWa : WrAt wa (fun j => w1.heap.size ≤ j) w1.heap.size [] := by rw [hwa]; exact (WrAt.new w1).more fun k h => by omega
    have hFa : Fr (fun j => w1.heap.size ≤ j) w1 wa := by rw [hwa]; exact (Fr.refl _ w1).alloc _
    rw [← hwa, ← hsa]
    clear hwa q0
    obtain ⟨P, hP⟩ : ∃ P, P = w1.heap.size := ⟨_, rfl⟩
    rw [← hP] at hsa hWa hFa s1 ⊢
    have hFP : ∀ k, F k → k < P := fun k hk => by have := hF k hk; omega
    have hgB : ¬ P ≤ w.heap.size := by omega
    have HP := Lib.hid hP
    clear hP hB hall
    refine (wr_n (B := P) (K := wa.heap.size) (l := []) (ns := [n]) (hWa.tight.fr ((Fr.refl NoB _).alloc _) fun _ _ _ => id) (Arr.nums wa _ _ _ _ (Nat.le_refl _) (by simp [u64v]) 1 rfl) (by simp; omega) (by simp; omega) (by simp)).mono ?_
    rintro e w3 ⟨rfl, hf3, hW3⟩
    have s3 := hf3.size
    simp only [World.size_alloc] at s3
    have hF3 := hFa.trans (((Fr.refl (fun j => P ≤ j) wa).alloc _).trans hf3 fun _ _ => id) fun _ _ => id
    obtain ⟨l3, hl3⟩ : ∃ l3, l3 = [] ++ [n].flatMap encN := ⟨_, rfl⟩
    have hn3 : l3.length ≤ 10 := by
      have e1 := encN_len64 (n := n) (by omega)
      rw [hl3]; simp; omega
    rw [← hl3] at hW3
    have Hl3 := Lib.hid hl3
    have hB3 := hB1.fr hF3 hgB
    have q0 := hB3.c0
    clear hl3
    go_wp2
    obtain ⟨w4, rfl⟩ : ∃ w4 : World, w4 = w3 := ⟨_, rfl⟩
    have hr4 : Refs w4 (fun k => F k ∧ k < P) A n b.refs := ArrOf.more ((hr.fr hF1 fun _ _ => id).fr hF3 fun k hk h => by have := hFP k hk; omega) (by omega) (fun k _ hk => ⟨hk, hFP k hk⟩) fun _ _ _ h => h
    go_loopw [22] (fun v wr => ∃ k : Nat, k ≤ n ∧ v = .int .i64 k ∧ WrAt wr (fun j => P ≤ j) P (l3 ++ (b.refs.take k).flatMap refBytes) ∧ (l3 ++ (b.refs.take k).flatMap refBytes).length ≤ 10 + 106 * k ∧ Fr (fun j => P ≤ j) w4 wr) (fun v _ => n - (intOf v).toNat)
    case atStart => exact ⟨0, by omega, rfl, by simpa using hW3, by simpa using hn3, Fr.refl _ _⟩
    case round =>
      obtain ⟨k, hk, rfl, hWk, hlen, hFk⟩ := hrel
      obtain ⟨w5, rfl⟩ : ∃ w5 : World, w5 = wr := ⟨_, rfl⟩
      have s5 := hFk.size
      by_cases hkn : k < n
      · obtain ⟨bb, oo, x, y, rfl, _, gx, _, hyr, hcell⟩ := ArrOf.at_ (hr4.fr hFk fun j hj h => by omega) hkn
        obtain ⟨hy, hxs⟩ := hyr
        have hx33 : Hid (y.length = 33) := by show _ = _; rw [hy]; exact refCells_len x
        have hx33a : Hid (y.toArray.size = 33) := by show _ = _; rw [hy]; simp [refCells_len]
        have hx1 : Hid (y.toArray.all (·.oneCell') = true) := by show _ = _; rw [hy]; exact refCells_ones x
        have Hy := Lib.hid hy
        have hil : k < b.refs.length := by rw [Hrl.out]; exact hkn
        have htk : l3 ++ (b.refs.take (k + 1)).flatMap refBytes = l3 ++ (b.refs.take k).flatMap refBytes ++ textBytes x.name.toList ++ x.id.1 := by
          rw [List.getElem?_eq_getElem hil] at gx
          injection gx with gx
          rw [List.take_succ_eq_append_getElem hil, gx, List.flatMap_append]
          simp [refBytes]
        have hx64 := A2.out x (List.mem_of_getElem? gx)
        have Htk := Lib.hid htk
        obtain ⟨lk, hlk⟩ : ∃ lk, lk = l3 ++ (b.refs.take k).flatMap refBytes := ⟨_, rfl⟩
        rw [← hlk] at hWk hlen
        have Hlk := Lib.hid hlk
        clear hy hil htk gx hlk
        go_wp2_with (first
          | (refine wpList_load_agg rfl 162 (.tmp 24) rfl bb (oo + k * 33) rfl y _ hcell Try.underlying162 rfl (by rw [hx33.out]; exact ref_size) ?_)
          | (refine wpList_alloc_any rfl 162 rfl 33 ref_zero ?_; intro z hz; have Hz := Lib.hid hz; clear hz)
          | (refine wpList_store_newN rfl 162 (.tmp 6) (.tmp 25) rfl 33 ref_size _ z Hz.out y.toArray rfl rfl hx33a.out hx1.out ?_
             obtain ⟨g, hg⟩ : ∃ g, g = w5.heap.size := ⟨_, rfl⟩
             obtain ⟨w6, hw6⟩ : ∃ w6, w6 = w5.alloc (.cells y.toArray 162) := ⟨_, rfl⟩
             have hf6 : Fr NoB w5 w6 := by rw [hw6]; exact (Fr.refl _ _).alloc _
             have hB6 : RefBlk w6 g x := by rw [hw6, hg, Hy.out]; exact ⟨Blk.new _ _ _⟩
             have hW6 := hWk.tight.fr hf6 fun _ _ _ => id
             have s6 : w6.heap.size = w5.heap.size + 1 := by rw [hw6, World.size_alloc]
             have c0 := hB6.c0
             rw [← hw6]
             rw [← hg]
             have hg5 : w5.heap.size ≤ g := by omega
             have hgl : g < w6.heap.size := by omega
             clear hw6 hg)
          | (refine wpList_str rfl 9 22 5 (.tmp 28) rfl Try.underlying9 Try.underlying22 Try.underlying5 x.name rfl hxs ?_; intro g7 c7 w7 hg7 hS7 hf7 hc7 hm7))
        have s7 := hf7.size
        refine (wr_textE (B := P) (K := w5.heap.size) (l := lk) (x := x.name.data.toList) (hW6.fr hf7 fun _ _ _ => id) (hS7.byt (.inr (by omega))) hc7 hm7 (by omega) (by omega) (by show lk.length + x.name.size + 30 ≤ _; omega)).mono ?_
        rintro e w8 ⟨rfl, hf8, hW8⟩
        have s8 := hf8.size
        have hB8 := (hB6.fr hf7 id).fr hf8 (by omega)
        have hF8 : Fr (fun j => P ≤ j) w5 w8 := ((hf6.trans hf7 fun _ _ => id).mono fun _ _ h => h.elim).trans hf8 fun _ _ h => h.1
        rw [← ByteArray.toList_eq] at hW8
        have hl8 : (lk ++ textBytes x.name.toList).length ≤ 10 + 106 * k + 74 := by
          have e : x.name.toList.length = x.name.size := toList_len _
          have := textBytes_lenE x.name.toList (by omega)
          rw [List.length_append]; omega
        go_wp2_with fail
        refine (wr_raw (B := P) (G := fun _ => True) (l := lk ++ textBytes x.name.toList) (x := x.id.1) hW8 (hB8.byt.more fun _ _ _ => trivial) (by omega) (by omega)).mono ?_
        rintro e w9 ⟨rfl, hf9, hW9⟩
        have s9 := hf9.size
        have hF9 := hF8.trans hf9 fun _ _ h => h
        rw [Hlk.out, ← Htk.out] at hW9
        have hl9 : (l3 ++ (b.refs.take (k + 1)).flatMap refBytes).length ≤ 10 + 106 * (k + 1) := by
          rw [Htk.out, ← Hlk.out, List.length_append, x.id.2]; omega
        clear hf9 hf8 hf7 hf6
        go_wp2
        go_roundw
        case rel => exact ⟨k + 1, by omega, by go_num, hW9, hl9, hFk.trans hF9 fun _ _ h => h⟩
        case measure => (simp [intOf] <;> omega)
      · obtain rfl : k = n := by omega
        rw [List.take_of_length_le (by rw [Hrl.out]; exact Nat.le_refl _)] at hWk hlen
        obtain ⟨l5, hl5⟩ : ∃ l5, l5 = l3 ++ b.refs.flatMap refBytes := ⟨_, rfl⟩
        rw [← hl5] at hWk hlen
        have Hl5 := Lib.hid hl5
        have hF5 := hF3.trans hFk fun _ _ h => h
        have hB5 := hB1.fr hF5 hgB
        have q1 := hB5.c1
        clear hl5
        go_wp2_with fail
        refine (wr_n (B := P) (K := w5.heap.size) (l := l5) (ns := [m]) (hWk.tight.fr ((Fr.refl NoB _).alloc _) fun _ _ _ => id) (Arr.nums w5 _ _ _ _ (Nat.le_refl _) (by simp [u64v]) 1 rfl) (by simp; omega) (by simp; omega) (by omega)).mono ?_
        rintro e w6 ⟨rfl, hf6, hW6⟩
        have s6 := hf6.size
        simp only [World.size_alloc] at s6
        have hF6 := hF5.trans (((Fr.refl (fun j => P ≤ j) w5).alloc _).trans hf6 fun _ _ => id) fun _ _ => id
        have hB6 := hB1.fr hF6 hgB
        have q2 := hB6.c1
        have hn6 : (l5 ++ [m].flatMap encN).length ≤ 20000 := by
          have e1 := encN_len64 (n := m) (by omega)
          simp; omega
        have ho6 : Bytss w6 (fun j => F j ∧ j < P) B m b.objs := Bytss.more ((ho.fr hF1 fun _ _ => id).fr hF6 fun j hj h => by have := hFP j hj; omega) fun j _ hj => ⟨hj, hFP j hj⟩
        go_wp2_with fail
        refine (WText_any w6 (fun j => P ≤ j) _ P (l5 ++ [m].flatMap encN) B m d b.objs hW6 ho6 (fun j h1 h2 => by omega) (fun j h => by omega) (by omega) (by omega)).mono ?_
        rintro e w7 ⟨rfl, hf7, hW7⟩
        have hW7' := hW7.more (G := fun j => P ≤ j) fun j hj => hj.elim id fun h => by omega
        have hF7 := hF6.trans hf7 fun _ _ h => h
        have s7 := hf7.size
        have hout : l5 ++ [m].flatMap encN ++ b.objs.flatMap textBytes = bunBytes b := by
          rw [Hl5.out, Hl3.out, bunBytes, Hrl.out, Hol.out]
          simp [List.append_assoc]
        have hn7 : (bunBytes b).length ≤ 2000000000 := by rw [← hout, List.length_append]; omega
        rw [hout] at hW7'
        clear hout hW7
        go_wp2_with fail
        refine (wr_bytes hW7' (by omega)).mono ?_
        rintro e w10 ⟨A10, c10, rfl, hf10, hO10, hin10⟩
        go_wp2
        go_ret2
        exact ⟨A10, c10, rfl, (hF1.new hF7 fun j hj => .inr (by have := HP.out; omega)).trans hf10 fun _ _ => id, hO10, fun j hj => by have := hin10 j hj; omega⟩
end Go.Proofs.Ytnkfchondedfcaa
