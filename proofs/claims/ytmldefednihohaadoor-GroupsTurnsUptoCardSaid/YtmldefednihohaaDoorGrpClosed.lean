/- The table's closing: links joined, with each group as the one between (plain walk and plain law). -/
import Derived.Test.YtmldefednihohaaDoorGrpPlay
namespace Go.Proofs.YtmldefednihohaaDoor.Grp
open Go.RowKit Go.Proofs.YtmldefednihohaaDoorW.PrintWords Go.Proofs.YtmldefednihohaaDoorW.PrintLast Go.Proofs.YtmldefednihohaaDoorW.PrintMore
set_option linter.unusedVariables false
set_option linter.unusedSimpArgs false
set_option maxRecDepth 100000
/-- Links joined, with groups under k between. -/
def Via (L : Nat → Nat → Bool) : Nat → Nat → Nat → Prop
  | 0, a, b => L a b = true
  | k + 1, a, b => Via L k a b ∨ (Via L k a k ∧ Via L k k b)
theorem Via.join (L : Nat → Nat → Bool) : ∀ k c, c < k → ∀ a b, Via L k a c → Via L k c b → Via L k a b := by
  intro k
  induction k with
  | zero => intro c h; omega
  | succ k ih =>
    intro c hc a b h1 h2
    by_cases e : c = k
    · subst e
      have h1' : Via L c a c := h1.elim id (fun h => h.1)
      have h2' : Via L c c b := h2.elim id (fun h => h.2)
      exact .inr ⟨h1', h2'⟩
    · have hc' : c < k := by omega
      rcases h1 with h1 | ⟨h1, h1'⟩
      · rcases h2 with h2 | ⟨h2, h2'⟩
        · exact .inl (ih c hc' a b h1 h2)
        · exact .inr ⟨ih c hc' a k h1 h2, h2'⟩
      · rcases h2 with h2 | ⟨h2, h2'⟩
        · exact .inr ⟨h1, ih c hc' k b h1' h2⟩
        · exact .inr ⟨h1, h2'⟩
theorem Via.link {L : Nat → Nat → Bool} {a b : Nat} (h : L a b = true) : ∀ k, Via L k a b := by
  intro k
  induction k with
  | zero => exact h
  | succ k ih => exact .inl ih
theorem via_rch {L : Nat → Nat → Bool} {n : Nat} (hz : ∀ k x, L k x = true → k < n ∧ x < n) {a b : Nat} (h : Rch L a b) : Via L n a b := by
  induction h with
  | one b h => exact Via.link h n
  | step d b _ h ih => exact Via.join L n d (hz d b h).1 a b ih (Via.link h n)
/-- The table, as far as it has been gone through: group k between, of a with all groups under b. -/
structure FW (n : Nat) (L : Nat → Nat → Bool) (Q : Nat → Bool) (k a b : Nat) : Prop where
  snd : ∀ x y, x < n → y < n → Q (x * n + y) = true → Rch L x y
  all : ∀ x y, x < n → y < n → Via L k x y → Q (x * n + y) = true
  done : ∀ x y, x < n → y < n → (x < a ∨ (x = a ∧ y < b)) → Via L (k + 1) x y → Q (x * n + y) = true
section
variable {n k a b : Nat} {L : Nat → Nat → Bool} {Q : Nat → Bool}
theorem FW.skip (h : FW n L Q k a b) (hk : k < n) (ha : a < n) (hb : b < n) (hno : ¬ (Q (a * n + k) = true ∧ Q (k * n + b) = true)) : FW n L Q k a (b + 1) :=
  ⟨h.snd, h.all, fun x y hx hy hd hv => by
    by_cases e : x = a ∧ y = b
    · obtain ⟨rfl, rfl⟩ := e
      rcases hv with hv | ⟨h1, h2⟩
      · exact h.all _ _ hx hy hv
      · exact absurd ⟨h.all _ _ hx hk h1, h.all _ _ hk hy h2⟩ hno
    · exact h.done x y hx hy (by omega) hv⟩
theorem FW.set (h : FW n L Q k a b) (hk : k < n) (ha : a < n) (hb : b < n) (h1 : Q (a * n + k) = true) (h2 : Q (k * n + b) = true) : FW n L (upB Q (a * n + b)) k a (b + 1) :=
  ⟨fun x y hx hy hq => by
    unfold upB at hq
    rw [Bool.or_eq_true] at hq
    rcases hq with hq | hq
    · exact h.snd x y hx hy hq
    · have e : x * n + y = a * n + b := by simpa using hq
      obtain ⟨rfl, rfl⟩ := idx_inj hy hb e
      exact Rch.trans (h.snd _ _ hx hk h1) (h.snd _ _ hk hy h2)
   , fun x y hx hy hv => by unfold upB; rw [h.all x y hx hy hv]; rfl
   , fun x y hx hy hd hv => by
    unfold upB
    by_cases e : x = a ∧ y = b
    · obtain ⟨rfl, rfl⟩ := e
      simp
    · rw [h.done x y hx hy (by omega) hv]; rfl⟩
theorem FW.row (h : FW n L Q k a n) : FW n L Q k (a + 1) 0 := ⟨h.snd, h.all, fun x y hx hy hd hv => h.done x y hx hy (by omega) hv⟩
theorem FW.next (h : FW n L Q k n 0) : FW n L Q (k + 1) 0 0 := ⟨h.snd, fun x y hx hy hv => h.done x y hx hy (by omega) hv, fun x y hx hy hd _ => by omega⟩
theorem FW.start {P : Nat → Bool} (ag : ∀ a b, a < n → b < n → P (a * n + b) = L a b) : FW n L P 0 0 0 :=
  ⟨fun x y hx hy hq => .one _ (by rw [← ag x y hx hy]; exact hq), fun x y hx hy hv => by rw [ag x y hx hy]; exact hv, fun x y hx hy hd _ => by omega⟩
end
theorem bl_row {w W : World} {N : Nat} {P : Nat → Bool} {base gb cb : Nat} {ok : Nat → Prop} (h : Kd.bool.R 4 W base ok (.slice (some ⟨gb, 0, none⟩) N cb) (bl P N)) : Kd.bool.C W (some ⟨gb, 0, none⟩) N (bl P N) := by
  have hs := h
  rw [show (Value.slice (some ⟨gb, 0, none⟩) N cb) = .slice (some ⟨gb, 0, none⟩) (bl P N).length cb by rw [bl_len]] at hs
  obtain ⟨_, hle, hC⟩ := Kd.R_reads' hs
  rw [bl_len] at hC
  exact hC
theorem PX.hz {S : Nat → Prop} {w : World} {v : Value} {n : Nat} {L : Nat → Nat → Bool} (h : PX S w v n L) (hn : 1 ≤ n) : ∀ k x, L k x = true → k < n ∧ x < n := by
  rcases h with h | ⟨_, g, _, hz, _⟩
  · omega
  · exact hz
set_option maxHeartbeats 8000000 in
theorem closed_calls (w W : World) (q gb cb n : Nat) (x : Option Addr) (S : Nat → Prop) (L : Nat → Nat → Bool) (P : Nat → Bool) (h : PlR w W q gb cb n x S L P) :
    Calls Tryd.prog 22 #[.pointer (some ⟨q, 0, none⟩)] W fun e w' => ∃ gc cc Q, e = .returned (.slice (some ⟨gc, 0, none⟩) (n * n) cc) ∧ BRel W (n * n) gc cc Q w' ∧ ∀ a b, a < n → b < n → (Q (a * n + b) = true ↔ Rch L a b) := by
  have H := Aside0.mk h
  obtain ⟨l0, l1⟩ := h.cells
  have hb1 := below_alloc (Below.refl W.heap.size W) (.cells #[] 4)
  have HB1 := Aside0.mk hb1
  obtain ⟨m0, m1⟩ := (h.below hb1).cells
  have HN1 := Aside0.mk h.n1
  have HN24 := Aside0.mk h.n24
  obtain ⟨NN, hNN⟩ : ∃ NN, NN = n * n := ⟨_, rfl⟩
  have HNN := Aside0.mk hNN
  have hN1 : 1 ≤ NN := by rw [hNN]; exact Nat.mul_pos h.n1 h.n1
  have hN2 : NN ≤ 576 := by rw [hNN]; exact Nat.mul_le_mul h.n24 h.n24
  have hrow := h.row
  rw [← hNN] at l1 m1 hrow
  have HC := Aside0.mk (Kd.reads_of_C (d := false) (bl_row (w := w) (Kd.R_below hrow.row hb1)))
  have HO : Aside0 ((W.alloc (.cells #[] 4)).ownsRow W.heap.size 4 1 (.slice (some ⟨W.heap.size, 0, none⟩) 0 0) ([] : List Bool).length (encs Value.bool [])) := ⟨⟨rfl, .inr ⟨W.heap.size, 0, #[], rfl, Nat.le_refl _, heap_alloc_new _ _, Nat.le_refl _, by decide, rfl, rfl⟩⟩⟩
  have HN := Aside0.mk hN1
  have HN2 := Aside0.mk hN2
  have HL : Aside0 (∀ W2 : World, W2.cell? ⟨q, 0, none⟩ = some (.int .i64 (n : Int)) → ∀ a b : Nat, a < n → b < n → Calls Tryd.prog 23 #[.pointer (some ⟨q, 0, none⟩), .int .i64 (a : Int), .int .i64 (b : Int)] W2 fun e w' => e = .returned (.int .i64 ((a * n + b : Nat) : Int)) ∧ w' = W2) := ⟨fun W2 hW a b ha hb => link_calls W2 q n a b hW h.n24 ha hb⟩
  clear h hrow hb1 hN1 hN2 hNN
  go_enter Tryd.func22, Tryd.ntmps22
  go_wp2_with ((with_reducible refine gate_builtin (b := .append) (xs := #[.tmp 7, .tmp 11]) rfl ?_); at_builtin; go_loud (refine print_append_row_of Value.bool false (w0 := W) W.heap.size rfl (.tmp 7) (.tmp 11) 46 4 (.bool false) 1 rfl Tryd.underlying46 infoBo rfl (by decide) (fun _ => rfl) (.slice (some ⟨W.heap.size, 0, none⟩) 0 0) [] (bl P NN) (some ⟨gb, 0, none⟩) NN cb rfl rfl HO.out HC.out HB1.out HB1.out.size ?hl ?_); (case hl => have := HN2.out; simp; omega); intro v3 w3 ho hb hg hat; (rw [List.nil_append] at ho); have HR3 := Aside0.mk (Kd.R_of_own (h1 := fun _ => rfl) (ok := fun _ => True) ho (fun _ _ => trivial)); have HB3 := Aside0.mk hb; clear ho hb hg hat)
  obtain ⟨gc, cc, e3⟩ := bool_form (w := W) (W := w3) HR3.out HN.out
  subst e3
  have HQ : Aside0 (BRel W NN gc cc P w3) := ⟨⟨HB3.out, HR3.out⟩⟩
  have HF : Aside0 (FW n L P 0 0 0) := ⟨FW.start H.out.ag⟩
  clear HR3 HB3 HO HC HB1 m0 m1 l0 l1
  go_loopg [4] (n + 1) (fun kq v4 w' => ∃ (k : Nat) (Q : Nat → Bool), v4 = .int .i64 (k : Int) ∧ Aside0 (kq + k = n + 1) ∧ Aside0 (k ≤ n) ∧ Aside0 (FW n L Q k 0 0) ∧ Aside0 (BRel W NN gc cc Q w'))
  case atStart => exact ⟨0, P, rfl, ⟨rfl⟩, ⟨Nat.zero_le _⟩, HF, HQ⟩
  case round =>
    clear HF HQ
    obtain ⟨k, Q, rfl, HK, HJ, HF, HQ⟩ := hrel
    obtain ⟨l0, _⟩ := (H.out.below HQ.out.low).cells
    cases gk with
    | zero => exact absurd HK.out (by have := HJ.out; omega)
    | succ k1 =>
      by_cases hk : k < n
      · have hk0 : (0 : Int) ≤ (k : Int) := by omega
        have hkn : (k : Int) < (n : Int) := by omega
        have HW3 : Aside0 (wrap64 ((k : Int) + 1) = ((k + 1 : Nat) : Int)) := ⟨wrap_up k n (by omega) (by have := HN24.out; omega)⟩
        go_wp2
        clear l0
        go_loopg [5] (n + 1) (fun kq v5 w' => ∃ (a : Nat) (Q : Nat → Bool), v5 = .int .i64 (a : Int) ∧ Aside0 (kq + a = n + 1) ∧ Aside0 (a ≤ n) ∧ Aside0 (FW n L Q k a 0) ∧ Aside0 (BRel W NN gc cc Q w'))
        case atStart => exact ⟨0, Q, rfl, ⟨rfl⟩, ⟨Nat.zero_le _⟩, HF, HQ⟩
        case round =>
          clear HF HQ
          obtain ⟨a, Q, rfl, HKA, HJA, HF, HQ⟩ := hrel
          obtain ⟨l0, _⟩ := (H.out.below HQ.out.low).cells
          cases gk with
          | zero => exact absurd HKA.out (by have := HJA.out; omega)
          | succ k2 =>
            by_cases ha : a < n
            · have ha0 : (0 : Int) ≤ (a : Int) := by omega
              have han : (a : Int) < (n : Int) := by omega
              have HW4 : Aside0 (wrap64 ((a : Int) + 1) = ((a + 1 : Nat) : Int)) := ⟨wrap_up a n (by omega) (by have := HN24.out; omega)⟩
              go_wp2
              clear l0
              go_loopg [6] (n + 1) (fun kq v6 w' => ∃ (b : Nat) (Q : Nat → Bool), v6 = .int .i64 (b : Int) ∧ Aside0 (kq + b = n + 1) ∧ Aside0 (b ≤ n) ∧ Aside0 (FW n L Q k a b) ∧ Aside0 (BRel W NN gc cc Q w'))
              case atStart => exact ⟨0, Q, rfl, ⟨rfl⟩, ⟨Nat.zero_le _⟩, HF, HQ⟩
              case round =>
                clear HF HQ
                obtain ⟨b, Q, rfl, HKB, HJB, HF, HQ⟩ := hrel
                obtain ⟨l0, _⟩ := (H.out.below HQ.out.low).cells
                cases gk with
                | zero => exact absurd HKB.out (by have := HJB.out; omega)
                | succ k3 =>
                  by_cases hb : b < n
                  · have hb0 : (0 : Int) ≤ (b : Int) := by omega
                    have hbn : (b : Int) < (n : Int) := by omega
                    have HW5 : Aside0 (wrap64 ((b : Int) + 1) = ((b + 1 : Nat) : Int)) := ⟨wrap_up b n (by omega) (by have := HN24.out; omega)⟩
                    obtain ⟨x1, hx1⟩ : ∃ x1, x1 = a * n + k := ⟨_, rfl⟩
                    obtain ⟨x2, hx2⟩ : ∃ x2, x2 = k * n + b := ⟨_, rfl⟩
                    obtain ⟨x3, hx3⟩ : ∃ x3, x3 = a * n + b := ⟨_, rfl⟩
                    have y1 : x1 < NN := by rw [hx1, HNN.out]; exact idx_lt ha hk
                    have y2 : x2 < NN := by rw [hx2, HNN.out]; exact idx_lt hk hb
                    have y3 : x3 < NN := by rw [hx3, HNN.out]; exact idx_lt ha hb
                    have i1 : (0 : Int) ≤ (x1 : Int) := by omega
                    have i2 : (0 : Int) ≤ (x2 : Int) := by omega
                    have i3 : (0 : Int) ≤ (x3 : Int) := by omega
                    have j1 : (x1 : Int) < (NN : Int) := by omega
                    have j2 : (x2 : Int) < (NN : Int) := by omega
                    have j3 : (x3 : Int) < (NN : Int) := by omega
                    obtain ⟨c1, f1⟩ := HQ.out.cell y1
                    obtain ⟨c2, f2⟩ := HQ.out.cell y2
                    obtain ⟨c3, f3⟩ := HQ.out.cell y3
                    have HL1 : Aside0 (∀ W2 : World, W2.cell? ⟨q, 0, none⟩ = some (.int .i64 (n : Int)) → Calls Tryd.prog 23 #[.pointer (some ⟨q, 0, none⟩), .int .i64 (a : Int), .int .i64 (k : Int)] W2 fun e w' => e = .returned (.int .i64 (x1 : Int)) ∧ w' = W2) := ⟨fun W2 hW => by rw [hx1]; exact HL.out W2 hW a k ha hk⟩
                    have HL2 : Aside0 (∀ W2 : World, W2.cell? ⟨q, 0, none⟩ = some (.int .i64 (n : Int)) → Calls Tryd.prog 23 #[.pointer (some ⟨q, 0, none⟩), .int .i64 (k : Int), .int .i64 (b : Int)] W2 fun e w' => e = .returned (.int .i64 (x2 : Int)) ∧ w' = W2) := ⟨fun W2 hW => by rw [hx2]; exact HL.out W2 hW k b hk hb⟩
                    have HL3 : Aside0 (∀ W2 : World, W2.cell? ⟨q, 0, none⟩ = some (.int .i64 (n : Int)) → Calls Tryd.prog 23 #[.pointer (some ⟨q, 0, none⟩), .int .i64 (a : Int), .int .i64 (b : Int)] W2 fun e w' => e = .returned (.int .i64 (x3 : Int)) ∧ w' = W2) := ⟨fun W2 hW => by rw [hx3]; exact HL.out W2 hW a b ha hb⟩
                    have HFS : Aside0 (¬ (Q x1 = true ∧ Q x2 = true) → FW n L Q k a (b + 1)) := ⟨fun hno => HF.out.skip hk ha hb (by rw [← hx1, ← hx2]; exact hno)⟩
                    have HFT : Aside0 (Q x1 = true → Q x2 = true → FW n L (upB Q x3) k a (b + 1)) := ⟨fun h1 h2 => by rw [hx3]; exact HF.out.set hk ha hb (by rw [← hx1]; exact h1) (by rw [← hx2]; exact h2)⟩
                    have HY3 := Aside0.mk y3
                    obtain ⟨p1, hp1⟩ : ∃ p1, p1 = Q x1 := ⟨_, rfl⟩
                    obtain ⟨p2, hp2⟩ : ∃ p2, p2 = Q x2 := ⟨_, rfl⟩
                    rw [← hp1] at c1
                    rw [← hp2] at c2
                    have HP1 := Aside0.mk hp1
                    have HP2 := Aside0.mk hp2
                    clear hx1 hx2 hx3 y1 y2 y3 hp1 hp2
                    cases p1 with
                    | false =>
                      go_wp2_with (go_at_call 23; ((with_reducible refine (HL1.out _ (by first | exact l0 | simpa using l0)).mono ?_); rintro e7 w7 ⟨rfl, hw⟩; subst hw))
                      go_roundg k3
                      case measure => omega
                      case rel => exact ⟨b + 1, _, by first | rfl | (rw [← HW5.out]), ⟨by have := HKB.out; omega⟩, ⟨by omega⟩, ⟨HFS.out (fun h => by rw [← HP1.out] at h; cases h.1)⟩, HQ⟩
                    | true =>
                      cases p2 with
                      | false =>
                        go_wp2_with (first
                          | (go_at_call 23; ((with_reducible refine (HL1.out _ (by first | exact l0 | simpa using l0)).mono ?_); rintro e7 w7 ⟨rfl, hw⟩; subst hw))
                          | (go_at_call 23; ((with_reducible refine (HL2.out _ (by first | exact l0 | simpa using l0)).mono ?_); rintro e7 w7 ⟨rfl, hw⟩; subst hw)))
                        go_roundg k3
                        case measure => omega
                        case rel => exact ⟨b + 1, _, by first | rfl | (rw [← HW5.out]), ⟨by have := HKB.out; omega⟩, ⟨by omega⟩, ⟨HFS.out (fun h => by rw [← HP2.out] at h; cases h.2)⟩, HQ⟩
                      | true =>
                        go_wp2_with (first
                          | (go_at_call 23; ((with_reducible refine (HL1.out _ (by first | exact l0 | simpa using l0)).mono ?_); rintro e7 w7 ⟨rfl, hw⟩; subst hw))
                          | (go_at_call 23; ((with_reducible refine (HL2.out _ (by first | exact l0 | simpa using l0)).mono ?_); rintro e7 w7 ⟨rfl, hw⟩; subst hw))
                          | (go_at_call 23; ((with_reducible refine (HL3.out _ (by first | exact l0 | simpa using l0)).mono ?_); rintro e7 w7 ⟨rfl, hw⟩; subst hw)))
                        go_roundg k3
                        case measure => omega
                        case rel => exact ⟨b + 1, _, by first | rfl | (rw [← HW5.out]), ⟨by have := HKB.out; omega⟩, ⟨by omega⟩, ⟨HFT.out HP1.out.symm HP2.out.symm⟩, ⟨HQ.out.put HY3.out⟩⟩
                  · have hbn : b = n := by have := HJB.out; omega
                    subst hbn
                    have hd : decide ((b : Int) < (b : Int)) = false := decide_eq_false (by omega)
                    go_wp2
                    go_roundg k2
                    case measure => omega
                    case rel => exact ⟨a + 1, Q, by first | rfl | (rw [← HW4.out]), ⟨by have := HKA.out; omega⟩, ⟨by omega⟩, ⟨HF.out.row⟩, HQ⟩
            · have han : a = n := by have := HJA.out; omega
              subst han
              have hd : decide ((a : Int) < (a : Int)) = false := decide_eq_false (by omega)
              go_wp2
              go_roundg k1
              case measure => omega
              case rel => exact ⟨k + 1, Q, by first | rfl | (rw [← HW3.out]), ⟨by have := HK.out; omega⟩, ⟨by omega⟩, ⟨HF.out.next⟩, HQ⟩
      · have hkn : k = n := by have := HJ.out; omega
        subst hkn
        have hd : decide ((k : Int) < (k : Int)) = false := decide_eq_false (by omega)
        go_wp2
        go_ret
        refine ⟨gc, cc, Q, ?_, ?_, fun a b ha hb => ⟨HF.out.snd a b ha hb, fun h => HF.out.all a b ha hb (via_rch (H.out.px.hz HN1.out) h)⟩⟩
        · rw [← HNN.out]; rfl
        · rw [← HNN.out]; exact HQ.out
end Go.Proofs.YtmldefednihohaaDoor.Grp
