/- search: what a group leads to (plain walk). -/
import Derived.Test.YtmldefednihohaaDoorSxGrpAbove
import Derived.Test.YtmldefednihohaaDoorSxGrpReach
import Derived.WalkMore
import Derived.Control
namespace Go.Proofs.YtmldefednihohaaDoor.Grp
open Go.RowKit Go.Proofs.YtmldefednihohaaDoorW.PrintWords Go.Proofs.YtmldefednihohaaDoorW.PrintLast Go.Proofs.YtmldefednihohaaDoorW.PrintMore
set_option linter.unusedVariables false
set_option linter.unusedSimpArgs false
set_option maxRecDepth 100000
abbrev U8 : Kd Int := Kd.int .u8
theorem infoB : (Tryd.prog.info? 5).map (fun i => (i.zero, i.size, i.bytes)) = some (some (.int .u8 0), 1, 1) := by kernel_rfl
def stL (St : Nat → Nat) (n : Nat) : List Int := (List.range n).map fun i => ((St i : Nat) : Int)
def natL (ks : List Nat) : List Int := ks.map fun k : Nat => ((k : Nat) : Int)
theorem stL_len (St : Nat → Nat) (n : Nat) : (stL St n).length = n := by simp [stL]
theorem natL_len (ks : List Nat) : (natL ks).length = ks.length := by simp [natL]
theorem stL_none (n : Nat) : stL (fun _ => 0) n = List.replicate n 0 := by
  apply List.ext_getElem?
  intro j
  by_cases hj : j < n <;> simp [stL, hj, List.getElem?_replicate]
theorem stL_set (St : Nat → Nat) {n k : Nat} (v : Nat) (hk : k < n) : (stL St n).set k ((v : Nat) : Int) = stL (upN St k v) n := by
  apply List.ext_getElem?
  intro j
  simp only [stL, List.getElem?_set, List.getElem?_map, List.length_map, List.length_range, upN]
  by_cases hj : j < n
  · by_cases e : k = j
    · subst e; simp [hj]
    · have : ¬ j = k := fun h => e h.symm
      simp [hj, e, this]
  · by_cases e : k = j
    · omega
    · simp [hj, e]
theorem stL_rd (St : Nat → Nat) {n k : Nat} (hk : k < n) : rdOf (0 : Int) (stL St n) (k : Int) = ((St k : Nat) : Int) := by
  simp [rdOf, stL, hk, List.getD_eq_getElem?_getD]
/-- A slice of one number, laid. -/
theorem lit_one {w : World} {base : Nat} (x : Int) (hb : base ≤ w.heap.size) : I64.R 3 (w.alloc (.cells #[.int .i64 x] 3)) base (fun _ => True) (.slice (some ⟨w.heap.size, 0, none⟩) 1 1) [x] := by
  refine Kd.R_of_own (enc := Value.int .i64) ⟨rfl, .inr ⟨w.heap.size, 1, #[.int .i64 x], rfl, hb, heap_alloc_new w _, Nat.le_refl _, by decide, rfl, rfl⟩⟩ (fun _ _ => trivial)
/-- A search in the world W: found, states, what waits. -/
structure SRel (w : World) (n : Nat) (gf cf gs cs : Nat) (F : Nat → Bool) (St : Nat → Nat) (ks : List Nat) (v7 : Value) (W : World) : Prop where
  low : Below w.heap.size w W
  gfge : w.heap.size ≤ gf
  fnd : RowAt W (.slice (some ⟨gf, 0, none⟩) (wide n) cf) (wide n) F
  sta : U8.R 5 W w.heap.size (fun _ => True) (.slice (some ⟨gs, 0, none⟩) n cs) (stL St n)
  nxt : I64.R 3 W w.heap.size (fun _ => True) v7 (natL ks)
section
variable {w W W2 : World} {n : Nat} {gf cf gs cs : Nat} {F : Nat → Bool} {St : Nat → Nat} {ks : List Nat} {v7 : Value}
theorem SRel.below (h : SRel w n gf cf gs cs F St ks v7 W) (hb : Below W.heap.size W W2) : SRel w n gf cf gs cs F St ks v7 W2 :=
  ⟨below_step h.low hb, h.gfge, h.fnd.below hb, Kd.R_below h.sta hb, Kd.R_below h.nxt hb⟩
theorem SRel.gsge (h : SRel w n gf cf gs cs F St ks v7 W) : w.heap.size ≤ gs := own_ge h.sta gs rfl
/-- The state of a group, in memory. -/
theorem SRel.cell (h : SRel w n gf cf gs cs F St ks v7 W) {k : Nat} (hk : k < n) : W.cell? ⟨gs, k, none⟩ = some (.int .u8 ((St k : Nat) : Int)) ∧ W.frozen? ⟨gs, k, none⟩ = false := by
  have hs := h.sta
  rw [show (Value.slice (some ⟨gs, 0, none⟩) n cs) = .slice (some ⟨gs, 0, none⟩) (stL St n).length cs by rw [stL_len]] at hs
  have := Kd.R_cell (0 : Int) hs (k : Int) (by omega) (by rw [stL_len]; omega)
  rw [stL_rd St hk] at this
  simpa using this
theorem low_set {g k : Nat} (u : Value) (h : Below w.heap.size w W) (hg : w.heap.size ≤ g) : Below w.heap.size w (W.setCell ⟨g, k, none⟩ u) :=
  ((Fr.of_below h (fun k => w.heap.size ≤ k)).then_ (Fr.set (w := W) (g := g) k u) (fun j hj => .inl (by omega))).low
/-- A state is set (and what waits is told anew). -/
theorem SRel.put (h : SRel w n gf cf gs cs F St ks v7 W) {k : Nat} (v : Nat) (hk : k < n) {ks2 : List Nat} {v72 : Value} (hn : I64.R 3 W w.heap.size (fun _ => True) v72 (natL ks2)) : SRel w n gf cf gs cs F (upN St k v) ks2 v72 (W.setCell ⟨gs, k, none⟩ (.int .u8 ((v : Nat) : Int))) := by
  have hf := Fr.set (w := W) (g := gs) k (.int .u8 ((v : Nat) : Int))
  refine ⟨low_set _ h.low h.gsge, h.gfge, h.fnd.other hf.2 (fun b hb e => ?_), ?_, other hn hf.2 (fun b hb e => ?_)⟩
  · subst e; exact own_ne h.fnd h.sta (by decide) b hb rfl
  · have := (Kd.R_putg h.sta (k : Int) ((v : Nat) : Int)).1
    rw [← stL_set St v hk]
    exact this
  · subst e; exact own_ne hn h.sta (by decide) b hb rfl
/-- Another row of numbers, apart from what waits, beside it. -/
theorem SRel.put_list (h : SRel w n gf cf gs cs F St ks v7 W) {k : Nat} (u : Value) {vl : Value} {E : List Int} (hl : I64.R 3 W w.heap.size (fun _ => True) vl E) : I64.R 3 (W.setCell ⟨gs, k, none⟩ u) w.heap.size (fun _ => True) vl E :=
  other hl (Fr.set (w := W) (g := gs) k u).2 (fun b hb e => by subst e; exact own_ne hl h.sta (by decide) b hb rfl)
/-- One more is found. -/
theorem SRel.found (h : SRel w n gf cf gs cs F St ks v7 W) {F2 : Nat → Bool} (hf : Fr W W2 (fun k => k = gf)) (hr : RowAt W2 (.slice (some ⟨gf, 0, none⟩) (wide n) cf) (wide n) F2) : SRel w n gf cf gs cs F2 St ks v7 W2 :=
  ⟨((Fr.of_below h.low (fun k => w.heap.size ≤ k)).then_ hf (fun j hj => .inl (by have := h.gfge; omega))).low, h.gfge, hr, other h.sta hf.2 (fun b hb e => by subst e; exact own_ne h.sta h.fnd (by decide) b hb rfl), other h.nxt hf.2 (fun b hb e => by subst e; exact own_ne h.nxt h.fnd (by decide) b hb rfl)⟩
theorem SRel.found_list (h : SRel w n gf cf gs cs F St ks v7 W) {vl : Value} {E : List Int} (hf : Fr W W2 (fun k => k = gf)) (hl : I64.R 3 W w.heap.size (fun _ => True) vl E) : I64.R 3 W2 w.heap.size (fun _ => True) vl E :=
  other hl hf.2 (fun b hb e => by subst e; exact own_ne hl h.fnd (by decide) b hb rfl)
/-- One more waits. -/
theorem SRel.push (h : SRel w n gf cf gs cs F St ks v7 W) {b : Nat} {v1 : Value} (ho : I64.R 3 W2 w.heap.size (fun _ => True) v1 (natL ks ++ [(b : Int)])) (hg : W.grownBy W2 v7.ownBlock) : SRel w n gf cf gs cs F St (ks ++ [b]) v1 W2 := by
  have hf := fr_grown hg
  have hge := fun b hb => own_ge h.nxt b hb
  refine ⟨((Fr.of_below h.low (fun k => w.heap.size ≤ k)).then_ hf (fun j hj => .inl (hge j hj))).low, h.gfge, h.fnd.other hf.2 (fun b hb e => own_ne h.nxt h.fnd (by decide) b e hb), other h.sta hf.2 (fun b hb e => own_ne h.nxt h.sta (by decide) b e hb), ?_⟩
  have e : natL (ks ++ [b]) = natL ks ++ [(b : Int)] := by simp [natL]
  rw [e]
  exact ho
theorem push_list {vl v1 : Value} {E : List Int} (hl : I64.R 3 W w.heap.size (fun _ => True) vl E) (hn : ∀ b, v7.ownBlock = some b → vl.ownBlock ≠ some b) (hg : W.grownBy W2 v7.ownBlock) (hat : v1.ownBlock = v7.ownBlock ∨ ∃ b, v1.ownBlock = some b ∧ W.heap.size ≤ b) : I64.R 3 W2 w.heap.size (fun _ => True) vl E ∧ ∀ b, v1.ownBlock = some b → vl.ownBlock ≠ some b := by
  have hf := fr_grown hg
  refine ⟨other hl hf.2 (fun b hb e => hn b e hb), fun b hb hb2 => ?_⟩
  rcases hat with hat | ⟨b', hb', hle⟩
  · rw [hat] at hb; exact hn b hb hb2
  · rw [hb'] at hb
    have := Option.some.inj hb
    have := own_lt' hl b hb2
    omega
/-- The last one that waits, read and taken. -/
theorem SRel.last {g7 c7 d : Nat} (h : SRel w n gf cf gs cs F St (ks ++ [d]) (.slice (some ⟨g7, 0, none⟩) (ks.length + 1) c7) W) : W.cell? ⟨g7, ks.length, none⟩ = some (.int .i64 (d : Int)) ∧ I64.R 3 W w.heap.size (fun _ => True) (.slice (some ⟨g7, 0, none⟩) ks.length c7) (natL ks) ∧ ks.length + 1 ≤ c7 := by
  have hs := h.nxt
  have hl : (natL (ks ++ [d])).length = ks.length + 1 := by rw [natL_len]; simp
  have hc7 := (Kd.R_reads' hs).2.1
  have ht := Kd.R_take hs (m := ks.length) (by rw [hl]; omega)
  have e : (natL (ks ++ [d])).take ks.length = natL ks := by
    unfold natL
    rw [List.map_append, List.take_left' (by simp)]
  rw [e] at ht
  rw [← hl] at hs
  have := (Kd.R_cell (0 : Int) hs (ks.length : Int) (by omega) (by rw [hl]; omega)).1
  have er : rdOf (0 : Int) (natL (ks ++ [d])) (ks.length : Int) = (d : Int) := by
    simp [rdOf, natL, List.getD_eq_getElem?_getD]
  rw [er] at this
  exact ⟨by simpa using this, ht, hc7⟩
theorem next_form {w W : World} {v : Value} {l : List Int} (h : I64.R 3 W w.heap.size (fun _ => True) v l) (hl : 0 < l.length) : ∃ g c, v = .slice (some ⟨g, 0, none⟩) l.length c := by
  rcases (Kd.own_of_R h).2 with ⟨_, h0⟩ | ⟨b, cap, cur, hv, _⟩
  · omega
  · exact ⟨b, cap, hv⟩
end
theorem nodup_le : ∀ (n : Nat) (l : List Nat), l.Nodup → (∀ x, x ∈ l → x < n) → l.length ≤ n := by
  intro n
  induction n with
  | zero =>
    intro l _ h
    cases l with
    | nil => simp
    | cons a l => exact absurd (h a (by simp)) (by omega)
  | succ n ih =>
    intro l hd h
    by_cases hn : n ∈ l
    · have h1 := ih (l.erase n) (hd.erase n) (fun x hx => by
        have h2 := (List.Nodup.mem_erase_iff hd).1 hx
        have := h x h2.2
        have := h2.1
        omega)
      rw [List.length_erase_of_mem hn] at h1
      omega
    · have h1 := ih l hd (fun x hx => by
        have := h x hx
        have : x ≠ n := fun e => hn (e ▸ hx)
        omega)
      omega
theorem state_form {w W : World} {v : Value} {n : Nat} {St : Nat → Nat} (h : U8.R 5 W w.heap.size (fun _ => True) v (stL St n)) (hn : 1 ≤ n) : ∃ g c, v = .slice (some ⟨g, 0, none⟩) n c := by
  rcases (Kd.own_of_R h).2 with ⟨_, h0⟩ | ⟨b, cap, cur, hv, _⟩
  · rw [stL_len] at h0; omega
  · exact ⟨b, cap, by rw [hv, stL_len]⟩
theorem state_cell {w W : World} {n gs cs k : Nat} {St : Nat → Nat} (h : U8.R 5 W w.heap.size (fun _ => True) (.slice (some ⟨gs, 0, none⟩) n cs) (stL St n)) (hk : k < n) : W.cell? ⟨gs, k, none⟩ = some (.int .u8 ((St k : Nat) : Int)) ∧ W.frozen? ⟨gs, k, none⟩ = false := by
  have hs := h
  rw [show (Value.slice (some ⟨gs, 0, none⟩) n cs) = .slice (some ⟨gs, 0, none⟩) (stL St n).length cs by rw [stL_len]] at hs
  have := Kd.R_cell (0 : Int) hs (k : Int) (by omega) (by rw [stL_len]; omega)
  rw [stL_rd St hk] at this
  simpa using this
/-- A search is begun. -/
theorem SRel.start {w w1 w2 : World} {n c gf cf gs cs : Nat} (hc : c < n) (b1 : Below w.heap.size w w1) (hgf : w.heap.size ≤ gf) (hfr : RowAt w1 (.slice (some ⟨gf, 0, none⟩) (wide n) cf) (wide n) (fun _ => false)) (b2 : Below w1.heap.size w1 w2) (ho : U8.R 5 w2 w.heap.size (fun _ => True) (.slice (some ⟨gs, 0, none⟩) n cs) (stL (fun _ => 0) n)) :
    SRel w n gf cf gs cs (fun _ => false) (upN (fun _ => 0) c 1) [c] (.slice (some ⟨(w2.setCell ⟨gs, c, none⟩ (.int .u8 1)).heap.size, 0, none⟩) 1 1) ((w2.setCell ⟨gs, c, none⟩ (.int .u8 1)).alloc (.cells #[.int .i64 (c : Int)] 3)) := by
  have hgs : w.heap.size ≤ gs := own_ge ho gs rfl
  have low : Below w.heap.size w w2 := below_step b1 b2
  have hf := Fr.set (w := w2) (g := gs) c (.int .u8 1)
  have low3 := low_set (k := c) (.int .u8 1) low hgs
  have ba : Below (w2.setCell ⟨gs, c, none⟩ (.int .u8 1)).heap.size (w2.setCell ⟨gs, c, none⟩ (.int .u8 1)) ((w2.setCell ⟨gs, c, none⟩ (.int .u8 1)).alloc (.cells #[.int .i64 (c : Int)] 3)) := below_alloc (Below.refl _ _) _
  have hst : U8.R 5 (w2.setCell ⟨gs, c, none⟩ (.int .u8 1)) w.heap.size (fun _ => True) (.slice (some ⟨gs, 0, none⟩) n cs) (stL (upN (fun _ => 0) c 1) n) := by
    have := (Kd.R_putg ho (c : Int) ((1 : Nat) : Int)).1
    rw [← stL_set _ 1 hc]
    exact this
  exact ⟨below_step low3 ba, hgf, ((hfr.below b2).other hf.2 (fun b hb e => by subst e; exact own_ne (hfr.below b2) ho (by decide) b hb rfl)).below ba, Kd.R_below hst ba, lit_one (c : Int) low3.size⟩
set_option maxHeartbeats 8000000 in
theorem search_calls (S : Nat → Prop) (w : World) (g n c : Nat) (X : Nat → Nat → Bool) (h : Ix S w g n X) (hc : c < n) (hz : ∀ k, k < n → ∀ b, X k b = true → b < n) (hgl : GL w) :
    Calls Tryd.prog 33 #[.pointer (some ⟨g, 0, none⟩), .int .i64 (c : Int)] w fun e w' => ∃ gf cf F, e = .returned (.slice (some ⟨gf, 0, none⟩) (wide n) cf) ∧ w.heap.size ≤ gf ∧ RowAt w' (.slice (some ⟨gf, 0, none⟩) (wide n) cf) (wide n) F ∧ (∀ b, F b = true ↔ Rch X c b) ∧ Below w.heap.size w w' := by
  obtain ⟨gl, gi, cl, ci, V, hv, _⟩ := h
  have c0 := hv.c0
  obtain ⟨rc, cc, eC⟩ := hv.form (k := c) (by omega)
  have hl := hv.rowl hc eC
  have HV := Aside0.mk hv
  have HW := Aside0.mk hv.wide1
  have HN1 := Aside0.mk hv.n1
  have HN4 := Aside0.mk hv.n4
  have HC := Aside0.mk hc
  have HZ := Aside0.mk hz
  have HGL := Aside0.mk hgl
  have hc0 : (0 : Int) ≤ (c : Int) := by omega
  have hcn : (c : Int) < (n : Int) := by omega
  clear hv eC hz hgl hc
  go_enter Tryd.func33, Tryd.ntmps33
  go_wp2_with (first
    | ((with_reducible refine gate_dst (N := 19) rfl ?_); (refine Kd.R_make U64 (w0 := w) 0 67 rfl (N := 19) rfl 63 _ _ rfl ((wide n : Nat) : Int) rfl rfl Tryd.underlying63 (.int .u64 0) 8 info64 rfl (by decide) (by omega) 0 (ok := fun _ => True) (okp := fun _ => True) rfl (fun _ hk => hk) trivial (by omega) ?hl ?hB (Nat.zero_le _) ?_); (case hl => have := HW.out; simp only [Int.toNat_natCast]; omega); (case hB => exact ⟨rfl, rfl, rfl, Nat.le_refl _, fun _ _ => rfl⟩); intro v1 w1 ho hb1 hg1 hat; (rw [Int.toNat_natCast] at ho); (obtain ⟨gf, cf, rfl, hgf, hfr⟩ := gain_of (w := w) (by have := HW.out; omega) ho hat); (have b1 : Below w.heap.size w w1 := ⟨hg1.os, hg1.tape, hg1.output, hg1.size, fun k hk => hg1.block k hk (by simp)⟩); have c01 := (HV.out.below b1).c0; have B1 := Aside0.mk b1; have GF := Aside0.mk hgf; have FR := Aside0.mk hfr; clear ho hb1 hg1 hat hgf hfr b1)
    | ((with_reducible refine gate_dst (N := 25) rfl ?_); (refine Kd.R_make U8 (w0 := w1) w.heap.size 5 rfl (N := 25) rfl 75 _ _ rfl (n : Int) rfl rfl Tryd.underlying75 (.int .u8 0) 1 infoB rfl (by decide) (by omega) 0 (ok := fun _ => True) (okp := fun _ => True) rfl (fun _ hk => hk) trivial (by omega) ?hl ?hB ?hS ?_); (case hl => have := HN4.out; simp only [Int.toNat_natCast]; omega); (case hB => exact ⟨rfl, rfl, rfl, Nat.le_refl _, fun _ _ => rfl⟩); (case hS => exact B1.out.size); intro v2 w2 ho hb2 hg2 hat; (rw [Int.toNat_natCast, ← stL_none] at ho); have HO := Aside0.mk ho; (have b2 : Below w1.heap.size w1 w2 := ⟨hg2.os, hg2.tape, hg2.output, hg2.size, fun k hk => hg2.block k hk (by simp)⟩); have B2 := Aside0.mk b2; (obtain ⟨gs, cs, hvs⟩ := state_form ho HN1.out); subst hvs; (obtain ⟨hsc, hsf⟩ := state_cell ho HC.out); clear ho hb2 hg2 hat b2))
  have hsz : (w2.setCell ⟨gs, c, none⟩ (.int .u8 1)).heap.size = w2.heap.size := by simp [World.setCell]
  have hst := SRel.start HC.out B1.out GF.out FR.out B2.out HO.out
  rw [hsz] at hst
  have HST := Aside0.mk hst
  clear hst hsz hsc hsf c01 c0 hl FR HO B2 B1
  go_loopg [7] (n + 1) (fun kq v7 w' => ∃ (F : Nat → Bool) (St : Nat → Nat) (ks : List Nat), Aside0 (n + 1 ≤ kq + cnt St n) ∧ Aside0 (SInv n X c F St ks (fun _ => False)) ∧ Aside0 (SRel w n gf cf gs cs F St ks v7 w'))
  case atStart => exact ⟨_, _, _, ⟨by omega⟩, ⟨SInv.start n X c HC.out⟩, HST⟩
  case round =>
    clear HST
    obtain ⟨F, St, ks, HK, HI, HR⟩ := hrel
    cases gk with
    | zero => exact absurd HK.out (by have := cnt_le St n; omega)
    | succ k1 =>
      rcases List.eq_nil_or_concat ks with hks | ⟨ks1, d, hks⟩
      · obtain ⟨A7, c7, h7⟩ := Kd.R_slice HR.out.nxt
        have hl0 : (natL ks).length = 0 := by rw [hks]; rfl
        rw [hl0] at h7
        subst h7
        rw [hks] at HR HI
        clear hks hl0
        go_wp2
        go_ret
        exact ⟨gf, cf, F, rfl, GF.out, HR.out.fnd, HI.out.all HC.out HZ.out, HR.out.low⟩
      · rw [List.concat_eq_append] at hks
        subst hks
        obtain ⟨g7, c7, h7⟩ := next_form HR.out.nxt (by rw [natL_len]; simp)
        have hl1 : (natL (ks1 ++ [d])).length = ks1.length + 1 := by rw [natL_len]; simp
        rw [hl1] at h7
        subst h7
        obtain ⟨hd, hd1, hinv⟩ := HI.out.pop
        obtain ⟨hlc, hlt, hlc7⟩ := HR.out.last
        obtain ⟨l, hll⟩ : ∃ l, l = ks1.length := ⟨_, rfl⟩
        rw [← hll] at hlc hlt hlc7 HR ⊢
        obtain ⟨hsc, hsf⟩ := HR.out.cell hd
        have hvr := HV.out.below HR.out.low
        have c0 := hvr.c0
        obtain ⟨rd_, rdc, eD⟩ := hvr.form (k := d) (by omega)
        have hld := hvr.rowl hd eD
        have hl0 : (0 : Int) ≤ (l : Int) := by omega
        have hlm : l ≤ 4096 := by
          have h1 := nodup_le n (ks1 ++ [d]) HI.out.dup (fun x hx => (HI.out.stk x hx).1)
          have h2 := HN4.out
          simp only [List.length_append, List.length_singleton] at h1
          omega
        have hsub : wrap64 ((l : Int) + 1 - 1) = (l : Int) := by unfold wrap64; omega
        have hpos : decide ((l : Int) + 1 > 0) = true := decide_eq_true (by omega)
        have hd0 : (0 : Int) ≤ (d : Int) := by omega
        have hdn : (d : Int) < (n : Int) := by omega
        have hc7i : (l : Int) ≤ (c7 : Int) := by omega
        have HS2 : Aside0 (SRel w n gf cf gs cs F (upN St d 2) ks1 (.slice (some ⟨g7, 0, none⟩) ks1.length c7) (wr.setCell ⟨gs, d, none⟩ (.int .u8 2))) := ⟨HR.out.put 2 hd (by rw [← hll]; exact hlt)⟩
        rw [← hll] at HS2
        have HI2 := Aside0.mk hinv
        have HD1 := Aside0.mk hd1
        have HD := Aside0.mk hd
        have ED := Aside0.mk eD
        have HLL := Aside0.mk hll
        have HCN : Aside0 (cnt (upN St d 2) n = cnt St n + 1) := ⟨cnt_pass St d (by omega) n hd⟩
        clear hvr hinv hlt hd1 eD hll
        go_wp2
        go_step3
        go_wp2
        go_step3
        generalize hW2 : wr.setCell ⟨gs, d, none⟩ (.int .u8 2) = W2 at HS2 ⊢
        clear hW2 HR HI hlc hlc7 hsc hsf c0 hld
        have hv2 := HV.out.below HS2.out.low
        have c02 := hv2.c0
        have hld2 := hv2.rowl HD.out ED.out
        have HLI := Aside0.mk (list_calls W2 (some ⟨rd_, 0, none⟩) rdc (wide n) (X d) (hv2.at_ (by have := HD.out; omega) ED.out) (by have := HW.out; omega) (by have := HW.out; omega) (HGL.out.below HS2.out.low))
        clear hv2
        go_wp2_with (go_at_call 36; ((with_reducible refine HLI.out.mono ?_); rintro e3 w3 ⟨v3, rfl, q3, b3⟩; (obtain ⟨A3, c3, h3⟩ := Kd.R_slice q3); subst h3; have Q3 := Aside0.mk (Kd.R_lower q3 HS2.out.low.size); have HAP := Aside0.mk (show ∀ b, (Value.slice (some ⟨g7, 0, none⟩) l c7).ownBlock = some b → (Value.slice A3 (elems (X d) (64 * wide n)).length c3).ownBlock ≠ some b from fun b h1 h2 => by have u1 := own_lt' HS2.out.nxt b h1; have u2 := own_ge q3 b h2; omega); have HS3 := Aside0.mk (HS2.out.below b3); clear q3 b3))
        clear c02 hld2
        obtain ⟨E, hE⟩ : ∃ E, E = elems (X d) (64 * wide n) := ⟨_, rfl⟩
        rw [← hE] at Q3 HAP ⊢
        have HE := Aside0.mk hE
        have HEL : Aside0 (E.length ≤ 4096) := ⟨by rw [hE]; have h1 := elems_len (X d) (64 * wide n); have h2 := HW.out; omega⟩
        clear hE
        have HDS : Aside0 (upN St d 2 d = 2) := ⟨by simp [upN]⟩
        go_loopg [7, 57] (E.length + 1) (fun kq v7 v57 w' => ∃ (j : Nat) (F : Nat → Bool) (St2 : Nat → Nat) (ks : List Nat), v57 = .int .i64 (j : Int) ∧ Aside0 (kq + j = E.length + 1) ∧ Aside0 (j ≤ E.length) ∧ Aside0 (SRel w n gf cf gs cs F St2 ks v7 w') ∧ Aside0 (SInv n X c F St2 ks (fun x => x = d)) ∧ Aside0 (St2 d = 2) ∧ Aside0 (cnt St2 n = cnt St n + 1) ∧ Aside0 (∀ x, x ∈ E.take j → F x.toNat = true ∧ St2 x.toNat ≠ 0) ∧ Aside0 (I64.R 3 w' w.heap.size (fun _ => True) (.slice A3 E.length c3) E) ∧ Aside0 (∀ b, v7.ownBlock = some b → (Value.slice A3 E.length c3).ownBlock ≠ some b))
        case atStart => exact ⟨0, _, _, _, rfl, ⟨rfl⟩, ⟨Nat.zero_le _⟩, HS3, HI2, HDS, HCN, ⟨fun x hx => by simp at hx⟩, Q3, HAP⟩
        case round =>
          clear HS3 HI2 HDS HCN Q3 HAP HS2
          obtain ⟨j, F, St2, ks, rfl, HK2, HJ, HS, HI, HDS, HCN, HDN, HQ, HAP⟩ := hrel
          cases gk with
          | zero => exact absurd HK2.out (by have := HJ.out; omega)
          | succ k2 =>
            by_cases hjl : j < E.length
            · obtain ⟨b, hb, hb64, hXb⟩ := elems_at (X d) (64 * wide n) (E[j]) (by rw [← HE.out]; exact List.getElem_mem hjl)
              have hbn : b < n := HZ.out d HD.out b hXb
              obtain ⟨g3, hg3⟩ : ∃ g3, A3 = some ⟨g3, 0, none⟩ := by
                obtain ⟨g3, cc, h3⟩ := next_form HQ.out (by omega)
                exact ⟨g3, (Value.slice.inj h3).1⟩
              subst hg3
              have hcell : wr.cell? ⟨g3, j, none⟩ = some (.int .i64 (b : Int)) := by
                have h1 := (Kd.R_cell (0 : Int) HQ.out (j : Int) (by omega) (by omega)).1
                have h2 : rdOf (0 : Int) E (j : Int) = (b : Int) := by rw [← hb]; simp [rdOf, List.getD_eq_getElem?_getD, hjl]
                rw [h2] at h1
                simpa using h1
              have HTK : Aside0 (∀ x, x ∈ E.take (j + 1) → x ∈ E.take j ∨ x.toNat = b) := ⟨fun x hx => by
                rw [List.take_succ_eq_append_getElem hjl, List.mem_append] at hx
                rcases hx with hx | hx
                · exact .inl hx
                · have : x = E[j] := by simpa using hx
                  exact .inr (by rw [this, hb]; rfl)⟩
              have hj0 : (0 : Int) ≤ (j : Int) := by omega
              have hjm : (j : Int) < (E.length : Int) := by omega
              have hb0 : (0 : Int) ≤ (b : Int) := by omega
              have hbm : (b : Int) < (n : Int) := by omega
              have HW3 : Aside0 (wrap64 ((j : Int) + 1) = ((j + 1 : Nat) : Int)) := ⟨wrap_up j E.length (by omega) (by have := HEL.out; omega)⟩
              have HXB := Aside0.mk hXb
              have HBN := Aside0.mk hbn
              have HI4 := Aside0.mk (HI.out.seen (by have := HDS.out; omega) hXb)
              have HAD := Aside0.mk (add_calls wr gf cf (wide n) b F HS.out.fnd (by have := HW.out; omega) (by have := HW.out; omega))
              clear hb hb64 hXb hbn
              by_cases hs0 : St2 b = 0
              · have HS0 := Aside0.mk hs0
                have HI5 := Aside0.mk (HI4.out.push (by have := HDS.out; omega) HXB.out HBN.out hs0)
                have HC5 : Aside0 (cnt (upN St2 b 1) n = cnt St n + 1) := ⟨by rw [cnt_wait St2 b hs0]; exact HCN.out⟩
                have HD5 : Aside0 (upN St2 b 1 d = 2) := ⟨by
                  have : d ≠ b := fun e => by have := HDS.out; rw [e] at this; omega
                  simp [upN, this]; exact HDS.out⟩
                have HN5 : Aside0 (∀ x, x ∈ E.take (j + 1) → (F x.toNat || x.toNat == b) = true ∧ upN St2 b 1 x.toNat ≠ 0) := ⟨fun x hx => by
                  rcases HTK.out x hx with h | h
                  · obtain ⟨h1, h2⟩ := HDN.out x h
                    refine ⟨by rw [h1]; rfl, ?_⟩
                    unfold upN
                    split
                    · omega
                    · exact h2
                  · rw [h]
                    refine ⟨by simp, by simp [upN]⟩⟩
                clear hs0
                go_upto_region 15 with (go_at_call 31; ((with_reducible refine HAD.out.mono ?_); rintro e4 w4 ⟨rfl, r4, f4⟩; have HS4 := Aside0.mk (HS.out.found f4 r4); have HQ4 := Aside0.mk (HS.out.found_list f4 HQ.out); (obtain ⟨hsc4, hsf4⟩ := HS4.out.cell HBN.out); (rw [HS0.out] at hsc4); have HS5 : Aside0 (SRel w n gf cf gs cs (fun x => F x || x == b) (upN St2 b 1) ks u7 (w4.setCell ⟨gs, b, none⟩ (.int .u8 1))) := ⟨HS4.out.put 1 HBN.out HS4.out.nxt⟩; have HQ5 := Aside0.mk (HS4.out.put_list (k := b) (.int .u8 1) HQ4.out); clear r4 f4))
                generalize hW5 : w4.setCell ⟨gs, b, none⟩ (.int .u8 1) = W5 at HS5 HQ5 ⊢
                clear hW5 hsc4 hsf4 HS4 HQ4
                have HKL : Aside0 (((natL ks).length + 1) * 8 ≤ 140737488355328) := ⟨by
                  have h1 := nodup_le n ks HI.out.dup (fun x hx => (HI.out.stk x hx).1)
                  have h2 := HN4.out
                  rw [natL_len]
                  omega⟩
                go_wp2_with ((with_reducible refine gate_builtin (b := .append) (xs := #[.tmp 72, .tmp 74]) rfl ?_); at_builtin; go_loud ((refine Kd.R_append I64 (w0 := W5) (W := W5) w.heap.size rfl (.tmp 72) (.tmp 74) 29 3 (.int .i64 0) 8 rfl Tryd.underlying29 infoI rfl (by decide) (by decide) u7 (natL ks) (b : Int) [.int .i64 (b : Int)] (fun _ => True) (fun _ => False) rfl rfl rfl (fun _ hk => hk.elim) (fun _ _ => trivial) HS5.out.nxt ?aB HS5.out.low.size HKL.out ?_); (case aB => exact ⟨rfl, rfl, rfl, Nat.le_refl _, fun _ _ => rfl⟩); intro v6 w6 ho hb hg hat; have HS6 := Aside0.mk (HS5.out.push ho hg); (obtain ⟨hq6, ha6⟩ := push_list HQ5.out HAP.out hg hat); have HQ6 := Aside0.mk hq6; have HA6 := Aside0.mk ha6; clear ho hb hg hat hq6 ha6))
                go_roundg k2
                case measure => omega
                case rel => exact ⟨j + 1, _, _, _, by first | rfl | (rw [← HW3.out]) | (congr 1; omega), ⟨by have := HK2.out; omega⟩, ⟨by omega⟩, HS6, HI5, HD5, HC5, HN5, HQ6, HA6⟩
              · have HNZ := Aside0.mk hs0
                have HN5 : Aside0 (∀ x, x ∈ E.take (j + 1) → (F x.toNat || x.toNat == b) = true ∧ St2 x.toNat ≠ 0) := ⟨fun x hx => by
                  rcases HTK.out x hx with h | h
                  · obtain ⟨h1, h2⟩ := HDN.out x h
                    exact ⟨by rw [h1]; rfl, h2⟩
                  · rw [h]
                    exact ⟨by simp, hs0⟩⟩
                obtain ⟨s, hs⟩ : ∃ s, s = St2 b := ⟨_, rfl⟩
                have hsi : ¬ ((s : Int) = 0) := by omega
                have hsn : ¬ (s = 0) := by omega
                have hsb : ((s : Int) != 0) = true := by simp [hsn]
                have HSS := Aside0.mk hs
                clear hs0 hs
                go_wp2_with (first
                  | (go_at_call 31; ((with_reducible refine HAD.out.mono ?_); rintro e4 w4 ⟨rfl, r4, f4⟩; have HS4 := Aside0.mk (HS.out.found f4 r4); have HQ4 := Aside0.mk (HS.out.found_list f4 HQ.out); (obtain ⟨hsc4, hsf4⟩ := HS4.out.cell HBN.out); (rw [← HSS.out] at hsc4); clear r4 f4)))
                go_roundg k2
                case measure => omega
                case rel => exact ⟨j + 1, _, St2, ks, by first | rfl | (rw [← HW3.out]) | (congr 1; omega), ⟨by have := HK2.out; omega⟩, ⟨by omega⟩, HS4, HI4, HDS, HCN, HN5, HQ4, HAP⟩
            · have hjn : j = E.length := by have := HJ.out; omega
              subst hjn
              have hdd : decide ((E.length : Int) < (E.length : Int)) = false := decide_eq_false (by omega)
              have HI9 : Aside0 (SInv n X c F St2 ks (fun _ => False)) := ⟨HI.out.done (fun x hx => by
                have hxn := HZ.out d HD.out x hx
                have hw := HW.out
                have hm : (x : Int) ∈ E := by rw [HE.out]; exact elems_mem (X d) _ x (by omega) hx
                have := HDN.out (x : Int) (by rw [List.take_length]; exact hm)
                simpa using this)⟩
              have HK9 : Aside0 (n + 1 ≤ k1 + cnt St2 n) := ⟨by have h1 := HK.out; have h2 := HCN.out; omega⟩
              go_wp2
              rw [Exit.noGoto_normal]
              go_wp2
              go_roundg k1
              case measure => omega
              case rel => exact ⟨F, St2, ks, HK9, HI9, HS⟩
end Go.Proofs.YtmldefednihohaaDoor.Grp
