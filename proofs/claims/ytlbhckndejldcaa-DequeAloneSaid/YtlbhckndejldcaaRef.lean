/- The document's bank: a row of numbers; what Is, Load and Put do with it. -/
import Derived.Test.YtlbhckndejldcaaAll
namespace Go.Proofs.Ytlbhckndejldcaa
open Go.RowKit
/-- block g begins with the numbers m -/
def RowIn (w : World) (g : Nat) (m : List Int) : Prop := ∃ cur : Array Value, w.heap[g]? = some (.cells cur 2 (0, 0)) ∧ cur.toList.take m.length = m.map (Value.int .i64)
theorem RowIn.lt {w : World} {g : Nat} {m : List Int} (h : RowIn w g m) : g < w.heap.size := by obtain ⟨_, h, _⟩ := h; exact lt_of_heap h
theorem RowIn.keep {w w' : World} {g : Nat} {m : List Int} {L : List Nat} (h : RowIn w g m) (k : Kept L w w') (hn : g ∉ L) : RowIn w' g m := by
  obtain ⟨c, h1, h2⟩ := h
  exact ⟨c, k.get h1 hn, h2⟩
theorem take_get {cur : Array Value} {xs : List Value} {n : Nat} (h : cur.toList.take n = xs) (i : Nat) (hi : i < n) : cur[i]? = xs[i]? := by
  rw [← h, List.getElem?_take, if_pos hi, Array.getElem?_toList]
theorem RowIn.cell {w : World} {g : Nat} {m : List Int} (h : RowIn w g m) (i : Nat) (hi : i < m.length) : w.cell? ⟨g, i, none⟩ = some (.int .i64 (m.getD i 0)) := by
  obtain ⟨c, h1, h2⟩ := h
  rw [cells_of h1, take_get h2 i hi]
  simp [hi]
theorem RowIn.ldcell {w : World} {g : Nat} {m : List Int} (h : RowIn w g m) (i : Int) (h0 : 0 ≤ i) (h1 : i < m.length) : w.cell? ⟨g, i.toNat, none⟩ = some (.int .i64 (ld m i)) := by
  rw [h.cell i.toNat (by omega), ld, if_pos ⟨h0, h1⟩]
theorem RowIn.free {w : World} {g : Nat} {m : List Int} (h : RowIn w g m) (i : Nat) : w.frozen? ⟨g, i, none⟩ = false := by
  obtain ⟨c, h1, h2⟩ := h
  exact free_of h1 i
theorem RowIn.of_i64s {w : World} {g : Nat} {m : List Int} (h : w.heap[g]? = some (.cells (i64s m) 2 (0, 0))) : RowIn w g m := ⟨_, h, by rw [i64s]; exact List.take_of_length_le (by simp)⟩

set_option maxHeartbeats 400000 in
set_option maxRecDepth 100000 in
theorem c46_in (g n c : Nat) (i : Int) (w : World) (h0 : 0 ≤ i) (h1 : i < n) :
    Calls Try.prog 104 #[.slice (some ⟨g, 0, none⟩) n c, .int .i64 i] w fun e w' => e = .returned (.bool true) ∧ w = w' := by
  go_enter Try.func104, Try.ntmps104
  go_wp2
  go_ret
  exact ⟨rfl, rfl⟩
set_option maxHeartbeats 400000 in
set_option maxRecDepth 100000 in
theorem c46_out (g n c : Nat) (i : Int) (w : World) (h : ¬ (0 ≤ i ∧ i < n)) :
    Calls Try.prog 104 #[.slice (some ⟨g, 0, none⟩) n c, .int .i64 i] w fun e w' => e = .returned (.bool false) ∧ w = w' := by
  by_cases h0 : 0 ≤ i
  · have h1 : decide (i < (n : Int)) = false := by simp; omega
    clear h
    go_enter Try.func104, Try.ntmps104
    go_wp2
    go_ret
    exact ⟨rfl, rfl⟩
  · clear h
    go_enter Try.func104, Try.ntmps104
    go_wp2
    go_ret
    exact ⟨rfl, rfl⟩
def inB (m : List Int) (i : Int) : Bool := decide (0 ≤ i ∧ i < m.length)
theorem c46 (g c : Nat) (m : List Int) (i : Int) (w : World) :
    Calls Try.prog 104 #[.slice (some ⟨g, 0, none⟩) m.length c, .int .i64 i] w fun e w' => e = .returned (.bool (inB m i)) ∧ w = w' := by
  by_cases h : 0 ≤ i ∧ i < m.length
  · rw [show inB m i = true from decide_eq_true h]; exact c46_in g _ c i w h.1 h.2
  · rw [show inB m i = false from decide_eq_false h]; exact c46_out g _ c i w h
set_option maxHeartbeats 400000 in
set_option maxRecDepth 100000 in
theorem c41 (g c : Nat) (m : List Int) (i : Int) (w : World) (h : RowIn w g m) :
    Calls Try.prog 77 #[.slice (some ⟨g, 0, none⟩) m.length c, .int .i64 i] w fun e w' => e = .returned (.int .i64 (ld m i)) ∧ w = w' := by
  by_cases hi : 0 ≤ i ∧ i < m.length
  · have hc := h.ldcell i hi.1 hi.2
    have H46 := hid (c46_in g m.length c i w hi.1 hi.2)
    obtain ⟨h0, h1⟩ := hi
    clear h
    go_enter Try.func77, Try.ntmps77
    go_wp2_with (go_at_call 104; refine H46.out.mono ?_; rintro e w' ⟨rfl, rfl⟩)
    go_ret
    exact ⟨rfl, rfl⟩
  · have H46 := hid (c46_out g m.length c i w hi)
    have e := ld_no hi
    rw [e]
    clear h hi e
    go_enter Try.func77, Try.ntmps77
    go_wp2_with (go_at_call 104; refine H46.out.mono ?_; rintro e w' ⟨rfl, rfl⟩)
    go_ret
    exact ⟨rfl, rfl⟩

def PutPost (m : List Int) (w : World) (e : Ending) (w' : World) : Prop :=
  ∃ g c, e = .returned (.slice (some ⟨g, 0, none⟩) m.length c) ∧ w.heap.size ≤ g ∧ Kept [] w w' ∧ RowIn w' g m ∧ m.length ≤ c
theorem owned_form {w : World} {base : Nat} {e : TypeId} {v : Value} {n : Nat} {xs : List Value} (h : w.ownsRow base e 1 v n xs) (hv : v ≠ .slice none 0 0) :
    ∃ g cap, v = .slice (some ⟨g, 0, none⟩) n cap ∧ base ≤ g ∧ n ≤ cap ∧ ∃ cur, w.heap[g]? = some (.cells cur e (0, 0)) ∧ cur.toList.take n = xs := by
  rcases h.2 with ⟨h1, _⟩ | ⟨g, cap, cur, h1, h2, h3, h4, _, _, h5⟩
  · exact absurd h1 hv
  · exact ⟨g, cap, h1, h2, h4, cur, h3, by simpa using h5⟩
set_option maxHeartbeats 1000000 in
set_option maxRecDepth 100000 in
theorem c44 (g c : Nat) (m : List Int) (i v : Int) (w : World) (h : RowIn w g m) (hm : m.length ≤ 524288) :
    Calls Try.prog 102 #[.slice (some ⟨g, 0, none⟩) m.length c, .int .i64 i, .int .i64 v] w (PutPost (st m i v) w) := by
  obtain ⟨i0, hi, hz0, hz1, hz2⟩ := info_parts info2
  have hbs : ∀ W : World, (W.alloc (.cells #[] 2)).ownsRow W.heap.size 2 1 (.slice (some ⟨W.heap.size, 0, none⟩) 0 0) 0 [] := fun W => World.ownsRow_made W #[] 0 (Nat.le_refl _) (Nat.zero_le _) rfl
  have hnews : ∀ j u, (m.map (Value.int .i64))[j]? = some u → (w.alloc (.cells #[] 2)).cell? ((⟨g, 0, none⟩ : Addr).add j) = some u := by
    intro j u hu
    rw [List.getElem?_map] at hu
    obtain ⟨x, hx, rfl⟩ := Option.map_eq_some_iff.1 hu
    have hj : j < m.length := (List.getElem?_eq_some_iff.1 hx).1
    have e : (⟨g, 0, none⟩ : Addr).add j = ⟨g, j, none⟩ := by unfold Addr.add; split <;> simp_all
    rw [e, World.cell?_alloc_past _ _ _ h.lt, h.cell j hj, List.getD_eq_getElem?_getD, hx]; rfl
  have hone : ∀ u ∈ m.map (Value.int .i64), u.oneCell' = true := by
    intro u hu
    obtain ⟨x, _, rfl⟩ := List.mem_map.1 hu
    rfl
  have HN := hid hnews
  have HO := hid hone
  have HB := hid hbs
  have HM := hid hm
  have H := hid h
  have hlen : (m.map (Value.int .i64)).length = m.length * 1 := by simp
  have HL := hid hlen
  clear hnews hone hbs hm h hlen
  by_cases hr : 0 ≤ i ∧ i < m.length
  · obtain ⟨h0, h1⟩ := hr
    go_enter Try.func102, Try.ntmps102
    go_wp2_with (at_builtin; refine wpList_append_own _ rfl (.tmp 8) (.tmp 9) 93 rfl w.heap.size 2 i0 (.int .i64 0) 1 8 Try.underlying93 hi hz0 hz1 hz2 rfl (by decide) (.slice (some ⟨w.heap.size, 0, none⟩) 0 0) 0 [] rfl (HB.out w) ⟨g, 0, none⟩ m.length c (m.map (Value.int .i64)) rfl HL.out HN.out HO.out ?h63 ?hby ?hba ?_)
    case h63 => have := HM.out; unfold maxLen; omega
    case hby => have := HM.out; omega
    case hba => simp
    intro v' w1 hown hgrow hiff
    obtain ⟨g', cap, hv, hg', hcap, cur, hcur, htake⟩ := owned_form hown (fun e => hiff e)
    try simp only [Nat.zero_add, List.nil_append] at hv hcap htake
    rw [hv]
    have hsz : cur.size ≥ m.length := by
      have := congrArg List.length htake
      simp at this; omega
    have hcc : ∃ u, w1.cell? ⟨g', i.toNat, none⟩ = some u := by
      rw [cells_of hcur]
      exact ⟨_, Array.getElem?_eq_getElem (by omega)⟩
    obtain ⟨u, hcu⟩ := hcc
    have hfr := free_of hcur i.toNat
    have HG := hid hgrow
    have HC := hid hcur
    have HT := hid htake
    clear hown hgrow hiff hv hcur htake
    go_wp2
    go_ret
    have k1 : Kept [] w w1 := by
      have := Kept.grown HG.out
      exact ((Kept.refl [] w).alloc _).drop this (by simp [Value.ownBlock])
    refine ⟨g', cap, by rw [st_length]; rfl, hg', k1.drop ((Kept.refl [g'] w1).setCell (.inl (by simp)) _) (by simp; omega), ⟨_, set_of HC.out _ _, ?_⟩, by rw [st_length]; exact hcap⟩
    rw [st_length, st, if_pos ⟨h0, h1⟩, List.map_set, ← HT.out]
    simp only [Array.toList_setIfInBounds]
    rw [List.take_set]
  · have hst := st_no hr v
    rw [hst]
    by_cases h0 : 0 ≤ i
    all_goals
      have h1 : (m.length : Int) ≤ i ∨ i < 0 := by omega
      have hr1 : ¬ 0 ≤ i ∨ (m.length : Int) ≤ i := by omega
      clear hr hst
      have h2 : 0 ≤ i → (m.length : Int) ≤ i := by omega
      clear h1 hr1
      go_enter Try.func102, Try.ntmps102
      go_wp2_with (at_builtin; refine wpList_append_own _ rfl (.tmp 8) (.tmp 9) 93 rfl w.heap.size 2 i0 (.int .i64 0) 1 8 Try.underlying93 hi hz0 hz1 hz2 rfl (by decide) (.slice (some ⟨w.heap.size, 0, none⟩) 0 0) 0 [] rfl (HB.out w) ⟨g, 0, none⟩ m.length c (m.map (Value.int .i64)) rfl HL.out HN.out HO.out (by have := HM.out; unfold maxLen; omega) (by have := HM.out; omega) (by simp) ?_)
      intro v' w1 hown hgrow hiff
      obtain ⟨g', cap, hv, hg', hcap, cur, hcur, htake⟩ := owned_form hown (fun e => hiff e)
      try simp only [Nat.zero_add, List.nil_append] at hv hcap htake
      rw [hv]
      have HG := hid hgrow
      have HC := hid hcur
      have HT := hid htake
      clear hown hgrow hiff hv hcur htake
      go_wp2
      go_ret
      have k1 : Kept [] w w1 := by
        have := Kept.grown HG.out
        exact ((Kept.refl [] w).alloc _).drop this (by simp [Value.ownBlock])
      exact ⟨g', cap, rfl, hg', k1, ⟨_, HC.out, HT.out⟩, hcap⟩
/-- the same, the length under a name of its own -/
theorem c41n (g c n : Nat) (m : List Int) (i : Int) (w : World) (hn : m.length = n) (h : RowIn w g m) :
    Calls Try.prog 77 #[.slice (some ⟨g, 0, none⟩) n c, .int .i64 i] w fun e w' => e = .returned (.int .i64 (ld m i)) ∧ w = w' := by subst hn; exact c41 g c m i w h
theorem c46n (g c n : Nat) (m : List Int) (i : Int) (w : World) (hn : m.length = n) :
    Calls Try.prog 104 #[.slice (some ⟨g, 0, none⟩) n c, .int .i64 i] w fun e w' => e = .returned (.bool (inB m i)) ∧ w = w' := by subst hn; exact c46 g c m i w
def PutPostN (n : Nat) (m : List Int) (w : World) (e : Ending) (w' : World) : Prop :=
  ∃ g c, e = .returned (.slice (some ⟨g, 0, none⟩) n c) ∧ w.heap.size ≤ g ∧ Kept [] w w' ∧ RowIn w' g m ∧ n ≤ c
theorem c44n (g c n : Nat) (m : List Int) (i v : Int) (w : World) (hn : m.length = n) (h : RowIn w g m) (hm : n ≤ 524288) :
    Calls Try.prog 102 #[.slice (some ⟨g, 0, none⟩) n c, .int .i64 i, .int .i64 v] w (PutPostN n (st m i v) w) := by
  subst hn
  refine (c44 g c m i v w h hm).mono ?_
  rintro e w' ⟨g', c', he, h1, h2, h3, h4⟩
  exact ⟨g', c', by rw [he, st_length], h1, h2, h3, by rw [st_length] at h4; exact h4⟩
/-- All, the length under a name of its own -/
def RowPostN (n : Nat) (m : List Int) (w : World) (e : Ending) (w' : World) : Prop :=
  ∃ O, e = .returned (.slice (some ⟨O, 0, none⟩) n n) ∧ w.heap.size ≤ O ∧ Kept [] w w' ∧ RowIn w' O m
theorem c48n (B D n : Nat) (m : List Int) (w : World) (hn : m.length = n) (h : BankAt w B D m) : Calls Try.prog 38 #[.pointer (some ⟨B,0,none⟩)] w (RowPostN n m w) := by
  subst hn
  refine (c48 B D m w h).mono ?_
  rintro e w' ⟨O, he, h1, h2, h3⟩
  exact ⟨O, he, h1, h2, RowIn.of_i64s h3⟩
theorem later_row {w0 : World} {g : Nat} {m : List Int} (h : RowIn w0 g m) (i : Nat) (hi : i < m.length) : ∀ (x : Later w0), x.w.cell? ⟨g, i, none⟩ = some (.int .i64 (m.getD i 0)) :=
  fun x => (h.keep x.k (by simp)).cell i hi
end Go.Proofs.Ytlbhckndejldcaa
