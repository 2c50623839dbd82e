/- BitsAlign is true for any bytes and any number. Conditions: the slice reads as bytes. -/
import Derived.Test.YtihgekpijplfiaaBe
namespace Go.Proofs.Ytihgekpijplfiaa.Rf
set_option linter.unusedVariables false
open Go.RowKit Go.Proofs.YtihgekpijplfiaaW.PrintWords Go.Proofs.YtihgekpijplfiaaW.PrintLast Go.Proofs.YtihgekpijplfiaaW.PrintMore Go.Proofs.Ytihgekpijplfiaa.PBitsRead Go.Proofs.Ytihgekpijplfiaa.Pack Go.Proofs.Ytihgekpijplfiaa.Wr Go.Proofs.Ytihgekpijplfiaa.Rd Go.Proofs.Ytihgekpijplfiaa.Fr Go.Proofs.Ytihgekpijplfiaa.Kit
theorem bytes_wf {l : List Int} (h : ∀ x ∈ l, (Lit.int .u8 x).wf = true) : Bytes l := by
  intro x hx
  have := h x hx
  simp [Lit.wf, IntKind.min, IntKind.max, IntKind.signed, IntKind.bits] at this
  exact ⟨by omega, by omega⟩
/-- Eight digits from a byte's beginning on are the byte. -/
theorem val8 (bs : List Int) (k : Nat) (h0 : 0 ≤ rd bs (k : Int)) (h1 : rd bs (k : Int) ≤ 255) : valAt bs (8 * k) 8 = rd bs (k : Int) := by
  have e : ∀ j, j < 8 → bitAt bs (8 * k + j) = rd bs (k : Int) / 2 ^ j % 2 := by
    intro j hj
    have h := rd_bit bs (8 * k + j)
    rw [show (8 * k + j) / 8 = k from by omega, show (8 * k + j) % 8 = j from by omega] at h
    exact h.symm
  simp only [valAt]
  rw [e 0 (by decide), e 1 (by decide), e 2 (by decide), e 3 (by decide), e 4 (by decide), e 5 (by decide), e 6 (by decide), e 7 (by decide)]
  generalize rd bs (k : Int) = x at *
  simp only [show (2 : Int) ^ 0 = 1 from rfl, show (2 : Int) ^ 1 = 2 from rfl, show (2 : Int) ^ 2 = 4 from rfl, show (2 : Int) ^ 3 = 8 from rfl, show (2 : Int) ^ 4 = 16 from rfl, show (2 : Int) ^ 5 = 32 from rfl, show (2 : Int) ^ 6 = 64 from rfl, show (2 : Int) ^ 7 = 128 from rfl]
  omega
theorem Bytes_rd {xs : List Int} (h : Bytes xs) (i : Nat) (hi : i < xs.length) : 0 ≤ rd xs (i : Int) ∧ rd xs (i : Int) ≤ 255 := by
  have : rd xs (i : Int) = xs[i] := by simp [rd, List.getD_eq_getElem?_getD, hi]
  rw [this]
  exact h _ (List.getElem_mem _)
set_option maxHeartbeats 8000000 in
set_option maxRecDepth 100000 in
theorem BitsAlign_walk (A : Option Addr) (c : Nat) (bs : List Int) (a : Int) (w : World) (hC : Kd.C (Kd.int .u8) w A bs.length bs) (hc : bs.length ≤ c) (hb : Bytes bs) (hl : bs.length ≤ 140737488351232) (a0 : -9223372036854775808 ≤ a) (a1 : a ≤ 9223372036854775807) :
    Calls Try.prog 6 #[.slice A bs.length c, .int .i64 a] w fun e w' => e = .returned (.bool true) ∧ Below w.heap.size w w' := by
  have HS := Aside0.mk (Cut_calls A c 8 bs w hC hc (by omega) (by decide))
  clear hC hc hl
  go_enter Try.func6, Try.ntmps6
  go_wp2_with fail
  refine HS.out.mono ?_
  clear HS
  rintro e w1 ⟨v, rfl, hR, hB⟩
  have hlen : (bs.take (min bs.length 8)).length ≤ 8 := by rw [List.length_take]; omega
  have hb0 := Bytes_take hb (min bs.length 8)
  generalize bs.take (min bs.length 8) = b0 at *
  obtain ⟨Ab, cb, ev⟩ := Kd.R_slice hR
  subst ev
  have HO := Aside0.mk hR
  have HB := Aside0.mk hB
  have HY := Aside0.mk hb0
  clear hR hB hb0 hb
  go_wp2_with (at_builtin; refine Kd.R_append_rows (Kd.int .u8) (w0 := w) w.heap.size rfl (.tmp 8) (.tmp 9) 37 5 (.int .u8 0) 1 rfl Try.underlying37 info5 rfl (by decide) (by decide) (.slice Ab b0.length cb) b0 [1, 2, 3] (some ⟨w1.heap.size, 0, none⟩) 3 3 (fun _ => True) (fun _ => False) rfl rfl (Kd.R_alloc HO.out _) (C_row (Kd.int .u8) (fun x => [.int .u8 x]) (fun _ _ => rfl) w1 5 (0, 0) [1, 2, 3] (by decide)) (fun x cs h => h) (fun _ hk => hk.elim) (fun _ _ => trivial) (below_alloc HB.out _) (Nat.le_trans HB.out.size (Nat.le_of_lt (by simp))) (by omega) ?_; intro v9 w9 ho hb hg hat; have HO9 := Aside0.mk ho; have HB9 := Aside0.mk hb; clear ho hb hg hat)
  have hby : Bytes (b0 ++ [1, 2, 3]) := fun x hx => by
    rcases List.mem_append.1 hx with h | h
    · exact HY.out x h
    · simp at h; omega
  have hbl : (b0 ++ [1, 2, 3]).length = b0.length + 3 := by simp
  generalize b0 ++ [1, 2, 3] = b at *
  obtain ⟨A9, c9, e9⟩ := Kd.R_slice HO9.out
  subst e9
  have hb3 : 3 ≤ b.length := by omega
  have hb11 : (b.length : Int) ≤ 11 := by omega
  clear HO HB HY hlen hbl
  have HN := Aside0.mk (NewR_fr A9 c9 b w9 (Kd.R_reads' HO9.out).2.2 (fun e => by subst e; exact R_none HO9.out) (by omega))
  go_wp2_with fail
  refine HN.out.mono ?_
  clear HN
  rintro e w2 ⟨g, rfl, hI, hB, hsz⟩
  have HI := Aside0.mk hI
  have HLT := Aside0.mk (show ∀ k, (Value.slice A9 b.length c9).ownBlock = some k → k < g from fun k hk => Nat.lt_of_lt_of_le (Kd.R_lt HO9.out k hk) hI.ge.1)
  have HO := Aside0.mk (Kd.R_below HO9.out hB)
  have HG := Aside0.mk (show w.heap.size ≤ g from Nat.le_trans HB9.out.size hI.ge.1)
  have HB := Aside0.mk (below_step HB9.out hB)
  clear hI hB hsz HO9 HB9
  go_wp2_with fail
  have hw := within_nat a 17 a0 a1 (by omega) (by omega) w2
  rw [show ((17 : Nat) : Int) = 17 from rfl] at hw
  refine hw.mono ?_
  clear hw
  rintro e w3 ⟨n, hn1, hn2, rfl, m3, rfl⟩
  clear hn1
  have hn16 : (n : Int) ≤ 16 := by omega
  go_wp2_with fail
  refine (Get_fr _ g b 0 n (by omega) (by omega) (by omega) _ (HI.out.drewN m3)).mono ?_
  rintro e w4 ⟨rfl, h1, h2⟩
  replace HI := Aside0.mk h1
  have HF := Aside0.mk (((Fr.refl w2 (fun i => i = g)).drewN m3).then_ h2)
  clear h1 h2
  go_wp2_with fail
  refine (Align_fr _ g b (0 + n) (by omega) (by omega) _ HI.out).mono ?_
  rintro e w5 ⟨rfl, h1, h2⟩
  obtain ⟨k, hk⟩ : ∃ k : Nat, k = (n + 7) / 8 := ⟨_, rfl⟩
  rw [show (0 + n + 7) / 8 * 8 = 8 * k from by omega] at h1
  replace HI := Aside0.mk h1
  replace HF := Aside0.mk (HF.out.then_ h2)
  clear h1 h2
  have z1 : ((n : Int) + 7) / 8 = (k : Int) := by omega
  have hk2 : (k : Int) ≤ 2 := by omega
  have hkb : (k : Int) < (b.length : Int) := by omega
  have HK := Aside0.mk hk
  clear hk
  have hkb' : k < b.length := by omega
  go_wp2_with fail
  refine (Left_fr _ g b (8 * k) false (by omega) (by omega) _ HI.out).mono ?_
  rintro e w6 ⟨rfl, m6, rfl⟩
  rw [show (8 * (b.length : Int) - ((8 * k : Nat) : Int)) = 8 * ((b.length : Int) - (k : Int)) from by omega]
  replace HI := Aside0.mk (HI.out.drewN m6)
  replace HF := Aside0.mk (HF.out.drewN m6)
  go_wp2_with fail
  refine (Align_fr _ g b (8 * k) (by omega) (by omega) _ HI.out).mono ?_
  rintro e w7 ⟨rfl, h1, h2⟩
  rw [show (8 * k + 7) / 8 * 8 = 8 * k from by omega] at h1
  replace HI := Aside0.mk h1
  replace HF := Aside0.mk (HF.out.then_ h2)
  clear h1 h2
  obtain ⟨ad, ea, hx⟩ := Kd.at_int (Kd.R_reads' (R_fr HO.out rfl HF.out (fun k hk e => absurd (HLT.out k hk) (by omega)))).2.2 (k : Int) (by omega) hkb
  rw [Int.toNat_natCast] at hx
  subst ea
  have hby2 := Bytes_rd hby k hkb'
  have hv8 := val8 b k hby2.1 hby2.2
  generalize rd b (k : Int) = old at hx hby2 hv8
  have e2 : (old == IntKind.i64.wrap old) = true := by rw [beq_iff_eq, IntKind.wrap_i64]; omega
  have e3 : IntKind.i64.wrap old = old := by rw [IntKind.wrap_i64]; omega
  have hadg : ¬ (ad.add k).block = g := R_add_ne HO.out (fun k hk => Nat.ne_of_lt (HLT.out k hk))
  have HGET := Aside0.mk (fun (w' : World) (hI : IsR w9.heap.size w' g b (8 * k) false) => Get_fr w9.heap.size g b (8 * k) 8 (by decide) (by omega) (by omega) w' hI)
  have HLEFT := Aside0.mk (fun (w' : World) (hI : IsR w9.heap.size w' g b (8 * k) false) => Left_fr w9.heap.size g b (8 * k) false (by omega) (by omega) w' hI)
  rw [hv8] at HGET
  rw [show (8 * (b.length : Int) - ((8 * k : Nat) : Int)) = 8 * ((b.length : Int) - (k : Int)) from by omega] at HLEFT
  rw [show ((8 : Nat) : Int) = 8 from rfl] at HGET
  have zz1 : IntKind.i64.wrap ((b.length : Int) - (k : Int)) = (b.length : Int) - (k : Int) := IntWalk.i64_in _ (by omega)
  have zz2 : IntKind.i64.wrap (8 * ((b.length : Int) - (k : Int))) = 8 * ((b.length : Int) - (k : Int)) := IntWalk.i64_in _ (by omega)
  have hk0 : (0 : Int) ≤ (k : Int) := by omega
  clear hv8 hby hby2 hkb' hb3
  go_wp2_with fail
  go_region_held3 (fun w' => w'.cell? (ad.add k) = some (.int .u8 old)) (go_keep) (first | (go_at_call 25; refine (HLEFT.out _ (by exact HI.out)).mono ?_; rintro e w' ⟨rfl, m8, rfl⟩) | (go_at_call 28; refine (HGET.out _ (by exact HI.out)).mono ?_; rintro e w' ⟨rfl, hI, hF⟩; have hx' := hF.cell hx hadg) | (go_at_call 29; refine (wakes_calls _).mono ?_; rintro e w' ⟨rfl, hW⟩; have hx9 := (Fr.of_below hW No).cell hx' (fun e => e.elim)))
  go_wp2_with fail
  go_ret
  exact ⟨rfl, below_step (Fr.below HB.out ((HF.out.drewN _).then_ hF) (fun k hk => by have : k = g := hk; have := HG.out; omega) HB.out.size) hW⟩
theorem BitsAlign_row (w : World) (A0 : Option Addr) (c0 : Nat) (l0 : List Int) (hr0 : Kd.C (Kd.int .u8) w A0 l0.length l0) (hc0 : l0.length ≤ c0) (hw0 : ∀ x ∈ l0, (Lit.int .u8 x).wf = true) (hb0 : l0.length * 1 ≤ 140737488351232) (a1 : Int) (w1 : (Lit.int .i64 a1).wf = true) :
    Calls Try.prog 6 #[.slice A0 l0.length c0, .int .i64 a1] w fun e w' => e = .returned (.bool true) ∧ Below w.heap.size w w' :=
  BitsAlign_walk A0 c0 l0 a1 w hr0 hc0 (bytes_wf hw0) (by omega) (i64_wf w1).1 (i64_wf w1).2
end Go.Proofs.Ytihgekpijplfiaa.Rf
