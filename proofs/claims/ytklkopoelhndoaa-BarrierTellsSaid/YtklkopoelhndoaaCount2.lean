/- The five machines: made, stepped, asked. -/
import Derived.Test.YtklkopoelhndoaaCount1
import Derived.Laws.EntriesVeiled
namespace Go.Proofs.Ytklkopoelhndoaa
open Go.RowKit
set_option linter.unusedVariables false
/-- which access a function value is: 0 adds n to what is pending, 2 looks whether nothing is, 3 asks, 4 looks whether it is asked; its own blocks are lo and above -/
def Mach (w : World) (fv : Value) (k : Nat) (n : Int) (l : Lay) (lo : Nat) : Prop :=
  (k = 0 ∧ ∃ C E, fv = .func (.func 83) #[] #[.pointer (some ⟨C, 0, none⟩), .pointer (some ⟨E, 0, none⟩)] ∧ lo ≤ C ∧ lo ≤ E ∧ LayIn w C l ∧ w.heap[E]? = some (.cells #[.int .i64 n] 2 (0, 0))) ∨
  (k = 2 ∧ ∃ C, fv = .func (.func 86) #[] #[.pointer (some ⟨C, 0, none⟩)] ∧ lo ≤ C ∧ LayIn w C l) ∨ (k = 3 ∧ ∃ C, fv = .func (.func 69) #[] #[.pointer (some ⟨C, 0, none⟩)] ∧ lo ≤ C ∧ LayIn w C l) ∨ (k = 4 ∧ ∃ C, fv = .func (.func 87) #[] #[.pointer (some ⟨C, 0, none⟩)] ∧ lo ≤ C ∧ LayIn w C l)
theorem Mach.keepL {w w' : World} {fv : Value} {k : Nat} {n : Int} {l : Lay} {lo : Nat} {L : List Nat} (h : Mach w fv k n l lo) (kk : Kept L w w') (hL : ∀ x, x ∈ L → x < lo) : Mach w' fv k n l lo := by
  have nin : ∀ x, lo ≤ x → x ∉ L := fun x hx hm => by have := hL x hm; omega
  rcases h with ⟨h, C, E, e, lC, lE, hC, hE⟩ | ⟨h, C, e, lC, hC⟩ | ⟨h, C, e, lC, hC⟩ | ⟨h, C, e, lC, hC⟩
  · exact .inl ⟨h, C, E, e, lC, lE, kk.get hC (nin C lC), kk.get hE (nin E lE)⟩
  · exact .inr (.inl ⟨h, C, e, lC, kk.get hC (nin C lC)⟩)
  · exact .inr (.inr (.inl ⟨h, C, e, lC, kk.get hC (nin C lC)⟩))
  · exact .inr (.inr (.inr ⟨h, C, e, lC, kk.get hC (nin C lC)⟩))
theorem Mach.keep {w w' : World} {fv : Value} {k : Nat} {n : Int} {l : Lay} {lo : Nat} (h : Mach w fv k n l lo) (kk : Kept [] w w') : Mach w' fv k n l lo := h.keepL kk (by simp)
theorem Mach.low {w : World} {fv : Value} {k : Nat} {n : Int} {l : Lay} {lo lo' : Nat} (h : Mach w fv k n l lo) (hl : lo' ≤ lo) : Mach w fv k n l lo' := by
  rcases h with ⟨h, C, E, e, lC, lE, hC, hE⟩ | ⟨h, C, e, lC, hC⟩ | ⟨h, C, e, lC, hC⟩ | ⟨h, C, e, lC, hC⟩
  · exact .inl ⟨h, C, E, e, Nat.le_trans hl lC, Nat.le_trans hl lE, hC, hE⟩
  · exact .inr (.inl ⟨h, C, e, Nat.le_trans hl lC, hC⟩)
  · exact .inr (.inr (.inl ⟨h, C, e, Nat.le_trans hl lC, hC⟩))
  · exact .inr (.inr (.inr ⟨h, C, e, Nat.le_trans hl lC, hC⟩))
theorem Mach.form {w : World} {fv : Value} {k : Nat} {n : Int} {l : Lay} {lo : Nat} (h : Mach w fv k n l lo) : ∃ g caps, fv = .func g #[] caps := by
  rcases h with ⟨h, C, E, e, lC, lE, hC, hE⟩ | ⟨h, C, e, lC, hC⟩ | ⟨h, C, e, lC, hC⟩ | ⟨h, C, e, lC, hC⟩
  · exact ⟨_, _, e⟩
  · exact ⟨_, _, e⟩
  · exact ⟨_, _, e⟩
  · exact ⟨_, _, e⟩
def mres (k : Nat) (n : Int) (l : Lay) (m : List Int) : Bool := if k = 0 then adds m l.pending n == 0 else if k = 2 then ld m l.pending == 0 else if k = 3 then false else ld m l.ask != 0
def mbank (k : Nat) (n : Int) (l : Lay) (m : List Int) : List Int := if k = 0 then st m l.pending (wrap64 (ld m l.pending + n)) else if k = 3 then st m l.ask 1 else m
theorem mbank_length (k : Nat) (n : Int) (l : Lay) (m : List Int) : (mbank k n l m).length = m.length := by unfold mbank; split <;> (try split) <;> simp [st_length]
theorem c145 (P B D : Nat) (t : TypeId) (fv : Value) (k : Nat) (n : Int) (l : Lay) (lo : Nat) (m : List Int) (g : Bool) (w : World) (h : OnceAt w P t fv false g) (hm : Mach w fv k n l lo) (hb : BankAt w B D m) (hPB : P ≠ B ∧ P ≠ D) :
    Calls Try.prog 60 #[.pointer (some ⟨P, 0, none⟩), .pointer (some ⟨B, 0, none⟩)] w fun e w' => e = .returned (.bool true) ∧ Kept [P, D] w w' ∧ OnceAt w' P t fv true (mres k n l m) ∧ BankAt w' B D (mbank k n l m) := by
  rcases hm with ⟨rfl, C, E, rfl, _, _, hC, hE⟩ | ⟨rfl, C, rfl, _, hC⟩ | ⟨rfl, C, rfl, _, hC⟩ | ⟨rfl, C, rfl, _, hC⟩
  · exact c145_177 P B D C E t l m n g w h hb hC hE hPB
  · exact c145_178 P B D C t l m g w h hb hC hPB
  · exact c145_152 P B D C t l m g w h hb hC hPB
  · exact c145_179 P B D C t l m g w h hb hC hPB
def MadePost (k : Nat) (n : Int) (l : Lay) (w : World) (e : Ending) (w' : World) : Prop :=
  ∃ fv, e = .returned (.agg (onceCells fv false false)) ∧ Kept [] w w' ∧ Mach w' fv k n l w.heap.size
theorem new_alloc2 (w : World) (a o : Obj) : ((w.alloc a).alloc o).heap[w.heap.size + 1]? = some o := by have := new_alloc (w.alloc a) o; have e : (w.alloc a).heap.size = w.heap.size + 1 := (by simp); rwa [e] at this
set_option maxHeartbeats 1000000 in
set_option maxRecDepth 100000 in
theorem c144 (l : Lay) (n : Int) (w : World) : Calls Try.prog 59 #[l.val, .int .i64 n] w (MadePost 0 n l w) := by
  have hmf : ∀ (fn : Fn) (first cap : Array Value) (w : World), (Instr.makeFunc fn first cap).run Try.prog w = .ok (.func fn first cap) w := fun _ _ _ _ => rfl
  go_enter Try.func59, Try.ntmps59
  go_wp2_with fail
  refine bodyPost_ret (v := .agg (onceCells (.func (.func 83) #[] #[.pointer (some ⟨w.heap.size, 0, none⟩), .pointer (some ⟨w.heap.size + 1, 0, none⟩)]) false false)) ?_ rfl ⟨_, rfl, ?_, ?_⟩
  · simp [results, Try.results59, go_sem]
  · exact (((Kept.refl _ _).alloc _).alloc _).alloc _
  · exact .inl ⟨rfl, _, _, rfl, Nat.le_refl _, by simp, old_alloc (old_alloc (new_alloc _ _) _) _, old_alloc (new_alloc2 _ _ _) _⟩
set_option maxHeartbeats 1000000 in
set_option maxRecDepth 100000 in
theorem c146 (l : Lay) (w : World) : Calls Try.prog 63 #[l.val] w (MadePost 2 0 l w) := by
  have hmf : ∀ (fn : Fn) (first cap : Array Value) (w : World), (Instr.makeFunc fn first cap).run Try.prog w = .ok (.func fn first cap) w := fun _ _ _ _ => rfl
  go_enter Try.func63, Try.ntmps63
  go_wp2_with fail
  refine bodyPost_ret (v := .agg (onceCells (.func (.func 86) #[] #[.pointer (some ⟨w.heap.size, 0, none⟩)]) false false)) ?_ rfl ⟨_, rfl, ?_, ?_⟩
  · simp [results, Try.results63, go_sem]
  · exact ((Kept.refl _ _).alloc _).alloc _
  · exact .inr (.inl ⟨rfl, _, rfl, Nat.le_refl _, old_alloc (new_alloc _ _) _⟩)
set_option maxHeartbeats 1000000 in
set_option maxRecDepth 100000 in
theorem c81 (l : Lay) (w : World) : Calls Try.prog 32 #[l.val] w (MadePost 3 0 l w) := by
  have hmf : ∀ (fn : Fn) (first cap : Array Value) (w : World), (Instr.makeFunc fn first cap).run Try.prog w = .ok (.func fn first cap) w := fun _ _ _ _ => rfl
  go_enter Try.func32, Try.ntmps32
  go_wp2_with fail
  refine bodyPost_ret (v := .agg (onceCells (.func (.func 69) #[] #[.pointer (some ⟨w.heap.size, 0, none⟩)]) false false)) ?_ rfl ⟨_, rfl, ?_, ?_⟩
  · simp [results, Try.results32, go_sem]
  · exact ((Kept.refl _ _).alloc _).alloc _
  · exact .inr (.inr (.inl ⟨rfl, _, rfl, Nat.le_refl _, old_alloc (new_alloc _ _) _⟩))
set_option maxHeartbeats 1000000 in
set_option maxRecDepth 100000 in
theorem c149 (l : Lay) (w : World) : Calls Try.prog 66 #[l.val] w (MadePost 4 0 l w) := by
  have hmf : ∀ (fn : Fn) (first cap : Array Value) (w : World), (Instr.makeFunc fn first cap).run Try.prog w = .ok (.func fn first cap) w := fun _ _ _ _ => rfl
  go_enter Try.func66, Try.ntmps66
  go_wp2_with fail
  refine bodyPost_ret (v := .agg (onceCells (.func (.func 87) #[] #[.pointer (some ⟨w.heap.size, 0, none⟩)]) false false)) ?_ rfl ⟨_, rfl, ?_, ?_⟩
  · simp [results, Try.results66, go_sem]
  · exact ((Kept.refl _ _).alloc _).alloc _
  · exact .inr (.inr (.inr ⟨rfl, _, rfl, Nat.le_refl _, old_alloc (new_alloc _ _) _⟩))
set_option maxHeartbeats 1000000 in
set_option maxRecDepth 100000 in
theorem c73 (l : Lay) (n : Int) (w : World) : Calls Try.prog 23 #[l.val, .int .i64 n] w (MadePost 0 n l w) := by
  go_enter Try.func23, Try.ntmps23
  go_wp2_with fail
  refine (c144 l n _).mono ?_
  rintro e w2 ⟨fv, rfl, hk, hm⟩
  obtain ⟨g, caps, rfl⟩ := hm.form
  have hR := hk.get (new_alloc2 w (.cells l.cells 25) (.cells #[.nilFunc, .bool false, .bool false] 49)) (by simp)
  have HK := hid (((Kept.refl [] w).alloc _).trans (((Kept.refl [] _).alloc _).trans hk))
  have HM := hid hm
  have hc := cells_of hR
  have hz := free_of hR
  clear hk hm hR
  go_wp2_with fail
  have K2 : Kept [w.heap.size + 1] w2 (((w2.setCell ⟨w.heap.size + 1, 0, none⟩ (.func g #[] caps)).setCell ⟨w.heap.size + 1, 1, none⟩ (.bool false)).setCell ⟨w.heap.size + 1, 2, none⟩ (.bool false)) :=
    (((Kept.refl _ _).setCell (.inl (by simp)) _).setCell (.inl (by simp)) _).setCell (.inl (by simp)) _
  refine bodyPost_ret (v := .agg (onceCells (.func g #[] caps) false false)) ?_ rfl ⟨_, rfl, HK.out.drop K2 (by simp), (HM.out.keepL K2 (by simp)).low (by simp; omega)⟩
  simp [results, Try.results23, go_sem, hc]
set_option maxHeartbeats 1000000 in
set_option maxRecDepth 100000 in
theorem c83 (l : Lay) (w : World) : Calls Try.prog 34 #[l.val] w (MadePost 0 (-1) l w) := by
  go_enter Try.func34, Try.ntmps34
  go_wp2_with fail
  refine (c144 l (-1) _).mono ?_
  rintro e w2 ⟨fv, rfl, hk, hm⟩
  obtain ⟨g, caps, rfl⟩ := hm.form
  have hR := hk.get (new_alloc2 w (.cells l.cells 25) (.cells #[.nilFunc, .bool false, .bool false] 64)) (by simp)
  have HK := hid (((Kept.refl [] w).alloc _).trans (((Kept.refl [] _).alloc _).trans hk))
  have HM := hid hm
  have hc := cells_of hR
  have hz := free_of hR
  clear hk hm hR
  go_wp2_with fail
  have K2 : Kept [w.heap.size + 1] w2 (((w2.setCell ⟨w.heap.size + 1, 0, none⟩ (.func g #[] caps)).setCell ⟨w.heap.size + 1, 1, none⟩ (.bool false)).setCell ⟨w.heap.size + 1, 2, none⟩ (.bool false)) :=
    (((Kept.refl _ _).setCell (.inl (by simp)) _).setCell (.inl (by simp)) _).setCell (.inl (by simp)) _
  refine bodyPost_ret (v := .agg (onceCells (.func g #[] caps) false false)) ?_ rfl ⟨_, rfl, HK.out.drop K2 (by simp), (HM.out.keepL K2 (by simp)).low (by simp; omega)⟩
  simp [results, Try.results34, go_sem, hc]
set_option maxHeartbeats 1000000 in
set_option maxRecDepth 100000 in
theorem c74 (P B D : Nat) (t : TypeId) (fv : Value) (k : Nat) (n : Int) (l : Lay) (lo : Nat) (m : List Int) (g : Bool) (w : World) (h : OnceAt w P t fv false g) (hm : Mach w fv k n l lo) (hb : BankAt w B D m) (hPB : P ≠ B ∧ P ≠ D) :
    Calls Try.prog 24 #[.pointer (some ⟨P, 0, none⟩), .pointer (some ⟨B, 0, none⟩)] w fun e w' => e = .returned (.bool true) ∧ Kept [P, D] w w' ∧ OnceAt w' P t fv true (mres k n l m) ∧ BankAt w' B D (mbank k n l m) := by
  have hc := cells_of h
  have G := hid (c145 P B D t fv k n l lo m g w h hm hb hPB)
  clear h hm hb hPB
  go_enter Try.func24, Try.ntmps24
  go_wp2_with fail
  refine G.out.mono ?_
  rintro e w2 ⟨rfl, h1, h2, h3⟩
  go_wp2_with fail
  go_ret
  exact ⟨rfl, h1, h2, h3⟩
set_option maxHeartbeats 1000000 in
set_option maxRecDepth 100000 in
theorem c74_done (P B : Nat) (t : TypeId) (fv : Value) (g : Bool) (w : World) (h : OnceAt w P t fv true g) :
    Calls Try.prog 24 #[.pointer (some ⟨P, 0, none⟩), .pointer (some ⟨B, 0, none⟩)] w fun e w' => e = .returned (.bool true) ∧ w = w' := by
  have hc := cells_of h
  have G := hid (c145_done P B t fv g w h)
  clear h
  go_enter Try.func24, Try.ntmps24
  go_wp2_with fail
  refine G.out.mono ?_
  rintro e w2 ⟨rfl, rfl⟩
  go_wp2_with fail
  go_ret
  exact ⟨rfl, rfl⟩
set_option maxHeartbeats 1000000 in
set_option maxRecDepth 100000 in
theorem c84 (P B D : Nat) (t : TypeId) (fv : Value) (k : Nat) (n : Int) (l : Lay) (lo : Nat) (m : List Int) (g : Bool) (w : World) (h : OnceAt w P t fv false g) (hm : Mach w fv k n l lo) (hb : BankAt w B D m) (hPB : P ≠ B ∧ P ≠ D) :
    Calls Try.prog 35 #[.pointer (some ⟨P, 0, none⟩), .pointer (some ⟨B, 0, none⟩)] w fun e w' => e = .returned (.bool true) ∧ Kept [P, D] w w' ∧ OnceAt w' P t fv true (mres k n l m) ∧ BankAt w' B D (mbank k n l m) := by
  have hc := cells_of h
  have G := hid (c145 P B D t fv k n l lo m g w h hm hb hPB)
  clear h hm hb hPB
  go_enter Try.func35, Try.ntmps35
  go_wp2_with fail
  refine G.out.mono ?_
  rintro e w2 ⟨rfl, h1, h2, h3⟩
  go_wp2_with fail
  go_ret
  exact ⟨rfl, h1, h2, h3⟩
set_option maxHeartbeats 1000000 in
set_option maxRecDepth 100000 in
theorem c84_done (P B : Nat) (t : TypeId) (fv : Value) (g : Bool) (w : World) (h : OnceAt w P t fv true g) :
    Calls Try.prog 35 #[.pointer (some ⟨P, 0, none⟩), .pointer (some ⟨B, 0, none⟩)] w fun e w' => e = .returned (.bool true) ∧ w = w' := by
  have hc := cells_of h
  have G := hid (c145_done P B t fv g w h)
  clear h
  go_enter Try.func35, Try.ntmps35
  go_wp2_with fail
  refine G.out.mono ?_
  rintro e w2 ⟨rfl, rfl⟩
  go_wp2_with fail
  go_ret
  exact ⟨rfl, rfl⟩
set_option maxHeartbeats 1000000 in
set_option maxRecDepth 100000 in
theorem c147 (P B D : Nat) (t : TypeId) (fv : Value) (k : Nat) (n : Int) (l : Lay) (lo : Nat) (m : List Int) (g : Bool) (w : World) (h : OnceAt w P t fv false g) (hm : Mach w fv k n l lo) (hb : BankAt w B D m) (hPB : P ≠ B ∧ P ≠ D) :
    Calls Try.prog 64 #[.pointer (some ⟨P, 0, none⟩), .pointer (some ⟨B, 0, none⟩)] w fun e w' => e = .returned (.bool true) ∧ Kept [P, D] w w' ∧ OnceAt w' P t fv true (mres k n l m) ∧ BankAt w' B D (mbank k n l m) := by
  have hc := cells_of h
  have G := hid (c145 P B D t fv k n l lo m g w h hm hb hPB)
  clear h hm hb hPB
  go_enter Try.func64, Try.ntmps64
  go_wp2_with fail
  refine G.out.mono ?_
  rintro e w2 ⟨rfl, h1, h2, h3⟩
  go_wp2_with fail
  go_ret
  exact ⟨rfl, h1, h2, h3⟩
set_option maxHeartbeats 1000000 in
set_option maxRecDepth 100000 in
theorem c147_done (P B : Nat) (t : TypeId) (fv : Value) (g : Bool) (w : World) (h : OnceAt w P t fv true g) :
    Calls Try.prog 64 #[.pointer (some ⟨P, 0, none⟩), .pointer (some ⟨B, 0, none⟩)] w fun e w' => e = .returned (.bool true) ∧ w = w' := by
  have hc := cells_of h
  have G := hid (c145_done P B t fv g w h)
  clear h
  go_enter Try.func64, Try.ntmps64
  go_wp2_with fail
  refine G.out.mono ?_
  rintro e w2 ⟨rfl, rfl⟩
  go_wp2_with fail
  go_ret
  exact ⟨rfl, rfl⟩
set_option maxHeartbeats 1000000 in
set_option maxRecDepth 100000 in
theorem c82 (P B D : Nat) (t : TypeId) (fv : Value) (k : Nat) (n : Int) (l : Lay) (lo : Nat) (m : List Int) (g : Bool) (w : World) (h : OnceAt w P t fv false g) (hm : Mach w fv k n l lo) (hb : BankAt w B D m) (hPB : P ≠ B ∧ P ≠ D) :
    Calls Try.prog 33 #[.pointer (some ⟨P, 0, none⟩), .pointer (some ⟨B, 0, none⟩)] w fun e w' => e = .returned (.bool true) ∧ Kept [P, D] w w' ∧ OnceAt w' P t fv true (mres k n l m) ∧ BankAt w' B D (mbank k n l m) := by
  have hc := cells_of h
  have G := hid (c145 P B D t fv k n l lo m g w h hm hb hPB)
  clear h hm hb hPB
  go_enter Try.func33, Try.ntmps33
  go_wp2_with fail
  refine G.out.mono ?_
  rintro e w2 ⟨rfl, h1, h2, h3⟩
  go_wp2_with fail
  go_ret
  exact ⟨rfl, h1, h2, h3⟩
set_option maxHeartbeats 1000000 in
set_option maxRecDepth 100000 in
theorem c82_done (P B : Nat) (t : TypeId) (fv : Value) (g : Bool) (w : World) (h : OnceAt w P t fv true g) :
    Calls Try.prog 33 #[.pointer (some ⟨P, 0, none⟩), .pointer (some ⟨B, 0, none⟩)] w fun e w' => e = .returned (.bool true) ∧ w = w' := by
  have hc := cells_of h
  have G := hid (c145_done P B t fv g w h)
  clear h
  go_enter Try.func33, Try.ntmps33
  go_wp2_with fail
  refine G.out.mono ?_
  rintro e w2 ⟨rfl, rfl⟩
  go_wp2_with fail
  go_ret
  exact ⟨rfl, rfl⟩
set_option maxHeartbeats 1000000 in
set_option maxRecDepth 100000 in
theorem c151 (P B D : Nat) (t : TypeId) (fv : Value) (k : Nat) (n : Int) (l : Lay) (lo : Nat) (m : List Int) (g : Bool) (w : World) (h : OnceAt w P t fv false g) (hm : Mach w fv k n l lo) (hb : BankAt w B D m) (hPB : P ≠ B ∧ P ≠ D) :
    Calls Try.prog 68 #[.pointer (some ⟨P, 0, none⟩), .pointer (some ⟨B, 0, none⟩)] w fun e w' => e = .returned (.bool true) ∧ Kept [P, D] w w' ∧ OnceAt w' P t fv true (mres k n l m) ∧ BankAt w' B D (mbank k n l m) := by
  have hc := cells_of h
  have G := hid (c145 P B D t fv k n l lo m g w h hm hb hPB)
  clear h hm hb hPB
  go_enter Try.func68, Try.ntmps68
  go_wp2_with fail
  refine G.out.mono ?_
  rintro e w2 ⟨rfl, h1, h2, h3⟩
  go_wp2_with fail
  go_ret
  exact ⟨rfl, h1, h2, h3⟩
set_option maxHeartbeats 1000000 in
set_option maxRecDepth 100000 in
theorem c151_done (P B : Nat) (t : TypeId) (fv : Value) (g : Bool) (w : World) (h : OnceAt w P t fv true g) :
    Calls Try.prog 68 #[.pointer (some ⟨P, 0, none⟩), .pointer (some ⟨B, 0, none⟩)] w fun e w' => e = .returned (.bool true) ∧ w = w' := by
  have hc := cells_of h
  have G := hid (c145_done P B t fv g w h)
  clear h
  go_enter Try.func68, Try.ntmps68
  go_wp2_with fail
  refine G.out.mono ?_
  rintro e w2 ⟨rfl, rfl⟩
  go_wp2_with fail
  go_ret
  exact ⟨rfl, rfl⟩
set_option maxHeartbeats 1000000 in
set_option maxRecDepth 100000 in
theorem c85 (P : Nat) (t : TypeId) (fv : Value) (d g : Bool) (w : World) (h : OnceAt w P t fv d g) :
    Calls Try.prog 36 #[.pointer (some ⟨P, 0, none⟩)] w fun e w' => e = .returned (.bool g) ∧ w = w' := by
  have hc := cells_of h
  clear h
  go_enter Try.func36, Try.ntmps36
  go_wp2_with fail
  go_ret
  exact ⟨rfl, rfl⟩
set_option maxHeartbeats 1000000 in
set_option maxRecDepth 100000 in
theorem c148 (P : Nat) (t : TypeId) (fv : Value) (d g : Bool) (w : World) (h : OnceAt w P t fv d g) :
    Calls Try.prog 65 #[.pointer (some ⟨P, 0, none⟩)] w fun e w' => e = .returned (.bool g) ∧ w = w' := by
  have hc := cells_of h
  clear h
  go_enter Try.func65, Try.ntmps65
  go_wp2_with fail
  go_ret
  exact ⟨rfl, rfl⟩
set_option maxHeartbeats 1000000 in
set_option maxRecDepth 100000 in
theorem c150 (P : Nat) (t : TypeId) (fv : Value) (d g : Bool) (w : World) (h : OnceAt w P t fv d g) :
    Calls Try.prog 67 #[.pointer (some ⟨P, 0, none⟩)] w fun e w' => e = .returned (.bool g) ∧ w = w' := by
  have hc := cells_of h
  clear h
  go_enter Try.func67, Try.ntmps67
  go_wp2_with fail
  go_ret
  exact ⟨rfl, rfl⟩
end Go.Proofs.Ytklkopoelhndoaa
