/- SetL, Plant. -/
import Derived.Test.YtfhpaehfihnjaaaGreatSetM
import Derived.Test.YtfhpaehfihnjaaaGreatTD
import Derived.Test.YtfhpaehfihnjaaaGreatUPrS
import Derived.Test.YtfhpaehfihnjaaaGreatNew
namespace Go.Proofs.YtfhpaehfihnjaaaGreat
theorem pun_ok80 {se : Nat} {cs : List (List UInt8)} (op : Int) (l : List UInt8) (h : se < 256 ∧ cs.length ≤ 4096 ∧ ∀ c ∈ cs, c.length = 80) :
    (U.punDo se cs op l).1 < 256 ∧ (U.punDo se cs op l).2.1.length ≤ 4096 ∧ ∀ c ∈ (U.punDo se cs op l).2.1, c.length = 80 := by
  obtain ⟨h1, h2, h3⟩ := h
  unfold U.punDo
  split
  · exact ⟨h1, h2, h3⟩
  split
  · exact ⟨h1, h2, h3⟩
  have ho : (U.punOwn cs op l).1.length ≤ 4096 ∧ ∀ c ∈ (U.punOwn cs op l).1, c.length = 80 := by
    unfold U.punOwn
    split
    · exact ⟨h2, h3⟩
    rename_i hc
    split
    · exact ⟨h2, h3⟩
    · refine ⟨by simp; omega, fun c hcm => ?_⟩
      rcases List.mem_append.1 hcm with hcm | hcm
      · exact h3 c hcm
      · obtain rfl := List.mem_singleton.1 hcm
        simp; omega
  refine ⟨?_, ho⟩
  dsimp only
  have := U.punOwn_sn cs op l
  split
  · exact h1
  · rcases this with e | e | e <;> rw [e] <;> decide
theorem pr_good {s : U.PS} {k : Nat} (op : Int) (l : List UInt8) (h : s.lines.length ≤ 8192 ∧ s.sense < 256 ∧ s.down ≤ 60 * k) :
    (U.prDo s op l).1.lines.length ≤ 8192 ∧ (U.prDo s op l).1.sense < 256 ∧ (U.prDo s op l).1.down ≤ 60 * (k + 1) := by
  obtain ⟨h1, h2, h3⟩ := h
  have hs : s.down ≤ 60 * (k + 1) := by omega
  have hm : ∀ (t : U.PS) (n : Nat), n ≤ 4 → t.down ≤ 60 * k → (t.move n).down ≤ 60 * (k + 1) := fun t n hn ht => by
    show U.prMove t.down n ≤ _
    unfold U.prMove
    split <;> omega
  have ho : (U.prOwn s op l).1.lines.length ≤ 8192 ∧ (U.prOwn s op l).1.down ≤ 60 * (k + 1) := by
    unfold U.prOwn
    split
    · exact ⟨h1, hs⟩
    split
    · exact ⟨h1, hs⟩
    · rename_i n hn
      have hn4 : n ≤ 4 := by
        unfold U.prMoves at hn
        repeat' (split at hn; first | (simp at hn; done) | skip)
        all_goals (first | (simp at hn; done) | (simp at hn; omega))
      split
      · exact ⟨h1, hs⟩
      split
      · exact ⟨h1, hs⟩
      · exact ⟨by show (s.lines ++ _).length ≤ 8192; simp; omega, hm (s.write l) n hn4 h3⟩
    · rename_i n hn
      have hn4 : n ≤ 4 := by
        unfold U.prMoves at hn
        repeat' (split at hn; first | (simp at hn; done) | skip)
        all_goals (first | (simp at hn; done) | (simp at hn; omega))
      exact ⟨h1, hm s n hn4 h3⟩
  unfold U.prDo
  split
  · exact ⟨h1, h2, hs⟩
  split
  · exact ⟨h1, h2, hs⟩
  refine ⟨ho.1, ?_, ho.2⟩
  show (if (U.prOwn s op l).2.2.2 = 0 then (U.prOwn s op l).1.sense else (U.prOwn s op l).2.2.2.toNat) < 256
  rw [U.prOwn_sense]
  have := U.prOwn_sn s op l
  split
  · exact h2
  · rcases this with e | e | e <;> rw [e] <;> decide
theorem Dev.act_ok {d : Dev} {k : Nat} (ok : d.ok k) (op : Int) (l : List UInt8) : (d.act op l).1.ok (k + 1) := by
  cases d with
  | reader se tk st cs => exact (U.rdDo_fit ok op l).1
  | punch se cs => exact pun_ok80 op l ok
  | printer s => exact pr_good op l ok
  | tape n s => exact ⟨ok.1, (T.do_ok s op l ok.2.1).1, T.do_tip s op l ok.2.1⟩
  | disk s => exact D.do_ok (h := ok)
theorem Dev.ok_mono {d : Dev} {k : Nat} (ok : d.ok k) : d.ok (k + 1) := by
  cases d with
  | printer s => exact ⟨ok.1, ok.2.1, by have := ok.2.2; omega⟩
  | _ => exact ok
theorem Dev.undo_ok {d : Dev} {k : Nat} (ok : d.ok k) (how : Int) : (d.undo how).ok k := by
  cases d with
  | tape n s => exact ⟨ok.1, T.undo_ok s how ok.2.1, T.undo_tip s how ok.2.2⟩
  | disk s => exact D.undo_ok (h := ok)
  | _ => exact ok
theorem Dev.power_ok {d : Dev} {k : Nat} (ok : d.ok k) : d.power.ok k := by
  cases d with
  | reader se tk st cs => exact ⟨by omega, ok.2.1, by have := ok.2.2.1; have := ok.2.2.2.1; omega, Nat.le_refl _, ok.2.2.2.2⟩
  | punch se cs => exact ⟨by omega, ok.2.1, ok.2.2⟩
  | printer s => exact ⟨ok.1, by show 0 < 256; omega, ok.2.2⟩
  | tape n s => exact ⟨ok.1, T.power_ok s ok.2.1, T.power_tip s⟩
  | disk s => exact D.power_ok ok
theorem Dev.act_kind (d : Dev) (op : Int) (l : List UInt8) : (d.act op l).1.kind = d.kind := by cases d <;> rfl
theorem Dev.undo_kind (d : Dev) (how : Int) : (d.undo how).kind = d.kind := by cases d <;> rfl
theorem Dev.power_kind (d : Dev) : d.power.kind = d.kind := by cases d <;> rfl
theorem Dev.undo_idle (d : Dev) (how : Int) (h : 0 ≤ how ∧ how ≤ 2) : (d.undo how).idle := by
  cases d with
  | tape n s =>
    show (T.tpUndo s how).1.last = none
    unfold T.tpUndo
    split
    · assumption
    · rw [if_neg (by omega)]
      split
      · rfl
      split <;> rfl
  | disk s =>
    show (D.dkUndo s how).1.last = none
    unfold D.dkUndo
    rw [if_neg (by omega)]
    split
    · assumption
    · rfl
  | _ => trivial
theorem Dev.power_idle (d : Dev) : d.power.idle := by
  cases d with
  | tape n s => rfl
  | disk s => rfl
  | _ => trivial
theorem Dev.idle_undo {d : Dev} (h : d.idle) (how : Int) : d.undo how = d := by
  cases d with
  | tape n s =>
    have e : s.last = none := h
    show Dev.tape n (T.tpUndo s how).1 = _
    unfold T.tpUndo; rw [e]
  | disk s =>
    have e : s.last = none := h
    show Dev.disk (D.dkUndo s how).1 = _
    unfold D.dkUndo
    split
    · rfl
    · rw [e]
  | _ => rfl
theorem UN.ok.mono {u : UN} {k : Nat} (ok : u.ok k) : u.ok (k + 1) := ⟨Dev.ok_mono ok.dev, ok.kind, ok.addr, ok.af, ok.ti⟩
theorem UN.ok.undo {u : UN} {k : Nat} (ok : u.ok k) (how : Int) : (u.undo how).ok k := ⟨Dev.undo_ok ok.dev how, ok.kind.trans (Dev.undo_kind _ _).symm, ok.addr, ok.af, ok.ti⟩
theorem UN.ok.run {u : UN} {k : Nat} (ok : u.ok k) (op : Int) (l : List UInt8) : (u.run op l).1.ok (k + 1) := ⟨Dev.act_ok ok.dev op l, ok.kind.trans (Dev.act_kind _ _ _).symm, ok.addr, ok.af, ok.ti⟩
theorem UN.ok.cmd {u : UN} {k : Nat} (ok : u.ok k) (op : Int) (l : List UInt8) : (u.cmd op l).1.ok (k + 1) := by
  unfold UN.cmd
  split
  · exact ok.run op l
  split
  · exact UN.ok.run (u := { u with after := u.after - 1, equip := false }) ⟨ok.dev, ok.kind, ok.addr, by have := ok.af; show u.after - 1 ≤ _; omega, ok.ti⟩ op l
  split
  · exact (UN.ok.undo (u := { u with times := u.times - 1, equip := true }) ⟨ok.dev, ok.kind, ok.addr, ok.af, by have := ok.ti; show u.times - 1 ≤ _; omega⟩ 0).mono
  · exact UN.ok.run (u := { u with equip := false }) ⟨ok.dev, ok.kind, ok.addr, ok.af, ok.ti⟩ op l
theorem UN.cmd_conf (u : UN) (op : Int) (l : List UInt8) : (u.cmd op l).1.conf = u.conf := by
  unfold UN.cmd
  repeat' split
  all_goals rfl
theorem settle_each {s : ST} {i j : Nat} {u : UN} (h : (s.settle i)[j]? = some u) : ∃ t, s.us[j]? = some t ∧ (u = t ∨ u = t.undo 0) := by
  unfold ST.settle at h
  split at h
  · split at h
    · exact ⟨u, h, Or.inl rfl⟩
    · rw [List.getElem?_modify] at h
      cases ht : s.us[j]? with
      | none => rw [ht] at h; cases h
      | some t =>
        rw [ht] at h
        injection h with h
        dsimp only at h
        split at h
        · exact ⟨t, rfl, Or.inr h.symm⟩
        · exact ⟨t, rfl, Or.inl h.symm⟩
  · exact ⟨u, h, Or.inl rfl⟩
theorem settle_len (s : ST) (i : Nat) : (s.settle i).length = s.us.length := by
  unfold ST.settle
  split
  · split
    · rfl
    · simp
  · rfl
theorem settle_idle {s : ST} {k i j : Nat} {u : UN} (ok : s.ok k) (hj : j ≠ i) (h : (s.settle i)[j]? = some u) : u.dev.idle := by
  unfold ST.settle at h
  cases hl : s.last with
  | none =>
    rw [hl] at h
    exact ok.idle j u h (by rw [hl]; simp)
  | some m =>
    rw [hl] at h
    dsimp only at h
    split at h
    · rename_i e; subst e
      exact ok.idle j u h (by rw [hl]; simpa using fun e => hj e.symm)
    · rw [List.getElem?_modify] at h
      cases ht : s.us[j]? with
      | none => rw [ht] at h; cases h
      | some t =>
        rw [ht] at h
        injection h with h
        dsimp only at h
        split at h
        · subst h; exact Dev.undo_idle _ 0 (by omega)
        · rename_i e; subst h; exact ok.idle j t ht (by rw [hl]; simpa using e)
theorem ST.ok.mono {s : ST} {k : Nat} (ok : s.ok k) : s.ok (k + 1) := ⟨fun u h => (ok.us u h).mono, ok.len, ok.asc, ok.last, ok.idle⟩
theorem pw_map {l m : List UN} (h : l.Pairwise fun a b => a.conf.addr < b.conf.addr) (e : m.map (·.conf) = l.map (·.conf)) : m.Pairwise fun a b => a.conf.addr < b.conf.addr := by
  have h1 : (l.map (·.conf)).Pairwise fun (a b : Conf) => a.addr < b.addr := List.pairwise_map.2 h
  rw [← e] at h1
  have h2 := List.pairwise_map.1 h1
  exact h2
theorem act_us {s : ST} {i : Nat} {u : UN} (hu : s.us[i]? = some u) (op : Int) (l : List UInt8) : ((s.settle i).set i (u.cmd op l).1).map (·.conf) = s.us.map (·.conf) := by
  apply List.ext_getElem?
  intro j
  rw [List.getElem?_map, List.getElem?_map, List.getElem?_set]
  split
  · rename_i e; subst e
    rw [hu]
    have := (List.getElem?_eq_some_iff.1 hu).1
    rw [if_pos (by rw [settle_len]; exact this)]
    simp [UN.cmd_conf]
  · cases h : (s.settle i)[j]? with
    | none =>
      have : s.us[j]? = none := by rw [List.getElem?_eq_none_iff] at h ⊢; rw [settle_len] at h; exact h
      rw [this]
    | some t =>
      obtain ⟨t0, h1, h2⟩ := settle_each h
      rw [h1]
      rcases h2 with rfl | rfl <;> rfl
theorem ST.ok.act {s : ST} {k : Nat} (ok : s.ok k) (addr op : Int) (l : List UInt8) : (s.act addr op l).1.ok (k + 1) := by
  unfold ST.act
  split
  · exact ok.mono
  rename_i i hi
  split
  · exact ok.mono
  split
  · exact ok.mono
  rename_i u hu
  split
  · exact ok.mono
  have hil := (List.getElem?_eq_some_iff.1 hu).1
  refine ⟨fun t ht => ?_, by show ((s.settle i).set i _).length ≤ 16; rw [List.length_set, settle_len]; exact ok.len, pw_map ok.asc (act_us hu op l), fun j e => ?_, fun j t ht hne => ?_⟩
  · obtain ⟨j, hj⟩ := List.mem_iff_getElem?.1 ht
    have hj' : ((s.settle i).set i (u.cmd op l).1)[j]? = some t := hj
    rw [List.getElem?_set] at hj'
    split at hj'
    · rw [if_pos (by rw [settle_len]; exact hil)] at hj'
      injection hj' with e; subst e
      exact (ok.us u (List.mem_of_getElem? hu)).cmd op l
    · obtain ⟨t0, h1, h2⟩ := settle_each hj'
      rcases h2 with rfl | rfl
      · exact (ok.us _ (List.mem_of_getElem? h1)).mono
      · exact ((ok.us _ (List.mem_of_getElem? h1)).undo 0).mono
  · injection e with e; subst e
    show i < ((s.settle i).set i _).length
    rw [List.length_set, settle_len]; exact hil
  · have hji : j ≠ i := fun e => hne (by rw [e])
    have ht' : ((s.settle i).set i (u.cmd op l).1)[j]? = some t := ht
    rw [List.getElem?_set, if_neg (fun e => hji e.symm)] at ht'
    exact settle_idle ok hji ht'
theorem modify_conf {us : List UN} (i : Nat) (f : UN → UN) (hf : ∀ u, (f u).conf = u.conf) : (us.modify i f).map (·.conf) = us.map (·.conf) := by
  apply List.ext_getElem?
  intro j
  rw [List.getElem?_map, List.getElem?_map, List.getElem?_modify]
  cases us[j]? with
  | none => rfl
  | some t => simp; split <;> simp [hf]
theorem ST.ok.fail {s : ST} {k : Nat} (ok : s.ok k) (addr after times : Int) (ha : after ≤ 9223372036854775807) (ht : times ≤ 9223372036854775807) : (s.fail addr after times).1.ok k := by
  unfold ST.fail
  split
  · exact ok
  rename_i i hi
  split
  · exact ok
  rename_i hn
  have hg : ∀ (j : Nat) (t : UN), (s.us.modify i fun u => { u with after := after.toNat, times := times.toNat })[j]? = some t → ∃ t0 : UN, s.us[j]? = some t0 ∧ t.dev = t0.dev ∧ t.ok k := fun j t h => by
    rw [List.getElem?_modify] at h
    cases h0 : s.us[j]? with
    | none => rw [h0] at h; cases h
    | some t0 =>
      rw [h0] at h
      injection h with h
      have o := ok.us t0 (List.mem_of_getElem? h0)
      subst h
      refine ⟨t0, rfl, ?_, ?_⟩
      · dsimp only; split <;> rfl
      · dsimp only
        split
        · exact ⟨o.dev, o.kind, o.addr, by show after.toNat ≤ _; omega, by show times.toNat ≤ _; omega⟩
        · exact o
  refine ⟨fun t h => ?_, by show (s.us.modify i _).length ≤ 16; rw [List.length_modify]; exact ok.len, pw_map ok.asc (modify_conf i _ fun u => rfl), fun j e => (by show j < (s.us.modify i _).length; rw [List.length_modify]; exact ok.last j e), fun j t h hne => ?_⟩
  · obtain ⟨j, hj⟩ := List.mem_iff_getElem?.1 h
    exact (hg j t hj).choose_spec.2.2
  · obtain ⟨t0, h1, h2, _⟩ := hg j t h
    rw [h2]; exact ok.idle j t0 h1 hne
theorem ST.ok.cut {s : ST} {k : Nat} (ok : s.ok k) (how : Int) : (s.cut how).1.ok k := by
  unfold ST.cut
  split
  · exact ok
  rename_i hh
  split
  · exact ok
  refine ⟨fun t h => ?_, by simpa using ok.len, pw_map ok.asc (by simp [Function.comp_def, UN.undo]), fun j e => (by simpa using ok.last j e), fun j t h _ => ?_⟩
  · obtain ⟨t0, h0, rfl⟩ := List.mem_map.1 h
    exact (ok.us t0 h0).undo how
  · have h' : (s.us.map fun u => u.undo how)[j]? = some t := h
    rw [List.getElem?_map] at h'
    obtain ⟨t0, h0, rfl⟩ := Option.map_eq_some_iff.1 h'
    exact Dev.undo_idle _ how (by omega)
theorem ST.ok.up {s : ST} {k : Nat} (ok : s.ok k) : s.up.1.ok k := by
  unfold ST.up
  split
  · exact ok
  refine ⟨fun t h => ?_, by simpa using ok.len, pw_map ok.asc (by simp [Function.comp_def, UN.up]), fun j e => (by cases e), fun j t h _ => ?_⟩
  · obtain ⟨t0, h0, rfl⟩ := List.mem_map.1 h
    have o := ok.us t0 h0
    exact ⟨Dev.power_ok o.dev, o.kind.trans (Dev.power_kind _).symm, o.addr, by show 0 ≤ _; omega, by show 0 ≤ _; omega⟩
  · have h' : (s.us.map UN.up)[j]? = some t := h
    rw [List.getElem?_map] at h'
    obtain ⟨t0, h0, rfl⟩ := Option.map_eq_some_iff.1 h'
    exact Dev.power_idle _
end Go.Proofs.YtfhpaehfihnjaaaGreat
namespace Go.Proofs.YtfhpaehfihnjaaaGreat
open Go.RowKit
abbrev nmA : ByteArray := ⟨#[65]⟩
abbrev nmB : ByteArray := ⟨#[66]⟩
abbrev nm0 : ByteArray := ⟨#[]⟩
def cDisk : Conf := ⟨400, 5, nmB, 1, 1⟩
def cReader : Conf := ⟨12, 1, nm0, 0, 0⟩
def cPunch : Conf := ⟨13, 2, nm0, 0, 0⟩
def cPrinter : Conf := ⟨14, 3, nm0, 0, 0⟩
def cTape : Conf := ⟨384, 4, nmA, 0, 0⟩
def plantL : List Conf := [cDisk, cReader, cPunch, cPrinter, cTape]
def mkU (c : Conf) (d : Dev) : UN := ⟨c, d, 0, 0, false⟩
def plantU : List UN := [mkU cReader (.reader 0 0 0 []), mkU cPunch (.punch 0 []), mkU cPrinter (.printer ⟨0, [], 0⟩), mkU cTape (.tape nmA (T.freshTP [])), mkU cDisk (.disk (D.freshDK nmB 1 1))]
def plantST : ST := ⟨plantU, none, false⟩
theorem serA : T.serOk nmA = true := by decide
theorem serB : D.newOk nmB 1 1 = true := by decide
theorem plant_us : newUs plantL [] = some [mkU cDisk (.disk (D.freshDK nmB 1 1)), mkU cReader (.reader 0 0 0 []), mkU cPunch (.punch 0 []), mkU cPrinter (.printer ⟨0, [], 0⟩), mkU cTape (.tape nmA (T.freshTP []))] := by
  have h1 : confDev cDisk = some (.disk (D.freshDK nmB 1 1)) := by unfold confDev cDisk; simp [serB]
  have h2 : confDev cReader = some (.reader 0 0 0 []) := rfl
  have h3 : confDev cPunch = some (.punch 0 []) := rfl
  have h4 : confDev cPrinter = some (.printer ⟨0, [], 0⟩) := rfl
  have h5 : confDev cTape = some (.tape nmA (T.freshTP [])) := by unfold confDev cTape; simp [serA]
  simp only [plantL, newUs, newStep, h1, h2, h3, h4, h5]
  simp [cDisk, cReader, cPunch, cPrinter, cTape, volB, mkU]
theorem plant_new : newST plantL = some plantST := by
  unfold newST
  rw [if_neg (by decide), plant_us]
  simp only [Option.map_some]
  unfold plantST plantU
  simp [List.mergeSort, List.MergeSort.Internal.splitInTwo, List.merge, leU, mkU, cDisk, cReader, cPunch, cPrinter, cTape]
theorem plant_ok : plantST.ok 0 := (new_ok plant_new).1
theorem cardB_head {W : World} {F : List SA} {A : Option Addr} {c n : Nat} {l : List UInt8} (hn : n = l.length) : D.CardB W (rowS 5 1 (.slice A n c) n (Lib.byteCells l) :: F) A l c := fun w S => by
  subst hn
  obtain ⟨h1, h2⟩ := own_cap S.own
  exact ⟨S.at_, h1, h2⟩
theorem cardB_cons {W : World} {F : List SA} {A : Option Addr} {c : Nat} {l : List UInt8} {P : SA} (h : D.CardB W F A l c) : D.CardB W (P :: F) A l c := fun w S => h w S.drop
theorem cardB_nil {W : World} {F : List SA} : D.CardB W F none [] 0 := fun _ _ => ⟨At.nil_, Nat.le_refl _, Nat.zero_le _⟩
section
variable {W w : World} {F : List SA} {x : Nat} {v : Value} {bs : List (Nat × Nat)} {s : ST}
set_option maxRecDepth 100000 in
set_option maxHeartbeats 4000000 in
theorem plant_any (S : SL W F w) : Calls Tryz.prog 15 #[] w fun e w' => ∃ x v bs, e = .returned (ptrV x) ∧ SL W (setO x v bs plantST :: F) w' := by
  have h0 := S.lit #[.int .i64 400, .int .i64 5, .string nmB, .int .i64 1, .int .i64 1, .int .i64 12, .int .i64 1, .string nm0, .int .i64 0, .int .i64 0, .int .i64 13, .int .i64 2, .string nm0, .int .i64 0, .int .i64 0, .int .i64 14, .int .i64 3, .string nm0, .int .i64 0, .int .i64 0, .int .i64 384, .int .i64 4, .string nmA, .int .i64 0, .int .i64 0] 68 5 5 rfl (by decide)
  have hr : Rd W (rowS 68 5 (.slice (some ⟨w.heap.size, 0, none⟩) 5 5) 5 (plantL.flatMap confL) :: F) (some ⟨w.heap.size, 0, none⟩) (plantL.flatMap confL) := Rd.head
  have HN := Lib.hid (new_any plantL (some ⟨w.heap.size, 0, none⟩) 5 (by intro c hc; simp [plantL, cDisk, cReader, cPunch, cPrinter, cTape] at hc; rcases hc with rfl | rfl | rfl | rfl | rfl <;> decide) (by decide) hr h0)
  clear hr h0 S
  go_enter Tryz.func15, Tryz.ntmps15
  go_wp2_with fail
  refine HN.out.mono ?_
  rintro e w1 h
  unfold NewRes at h
  rw [plant_new] at h
  obtain ⟨x, v, bs, rfl, S1⟩ := h
  have H1 := Lib.hid S1
  clear S1
  unfold ptrV
  go_wp2
  go_ret
  exact ⟨x, v, bs, rfl, H1.out.s1.drop⟩
end
end Go.Proofs.YtfhpaehfihnjaaaGreat
